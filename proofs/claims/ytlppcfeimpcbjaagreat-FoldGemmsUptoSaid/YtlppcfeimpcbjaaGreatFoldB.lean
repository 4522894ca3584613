
/- Texts merged: FoD, FoE, FoF, FoG. -/
import Derived.Test.YtlppcfeimpcbjaaGreatFoldA
import Derived.Test.YtlppcfeimpcbjaaGreatFullE
set_option linter.unusedSimpArgs false
set_option linter.unusedVariables false

/- fold.may, fold.zeros; an element of a list of rationals is written. -/
namespace Go.Proofs.YtlppcfeimpcbjaaGreat
open Go.RowKit Go.Shelf
attribute [local go_sem] Oper.semAt_some

/-- Why there is no sum over axes. -/
def sumE (sh : List Int) (es : List RatL) (axes : List Int) : Int := if mayT sh es ≠ 0 then mayT sh es else axE axes sh.length
set_option maxHeartbeats 4000000 in
theorem fmay_t {S T U : Nat → Prop} (w : World) (va ve vx : Value) (sh : List Int) (es : List RatL) (axes : List Int) (L : Nat) (r : Int) (hr : Hid (sumE sh es axes = r)) (ha : Sl Im S w va sh) (he : Sl Rm T w ve es) (hx : Sl Im U w vx axes)
    (hL : Hid (∀ x ∈ es, x.2.1.length ≤ L ∧ x.2.2.length ≤ L)) (hL1 : 1 ≤ L) (hl : L ≤ 104857600) :
    Calls Tryz.prog 41 #[.agg #[va, ve], vx] w fun e w' => e = .returned (.int .i64 r) ∧ Fr (fun k => k < w.heap.size) w w' := by
  obtain ⟨A, c, rfl, _, _, hlx⟩ := ha.slice
  obtain ⟨B, d, rfl, _, _, hly⟩ := he.slice
  obtain ⟨C, f, rfl, _, _, hlz⟩ := hx.slice
  have F := (Fr.refl (fun k => k < w.heap.size) w).alloc (.cells #[.slice A sh.length c, .slice B es.length d] 26)
  have x0 := Box2.new w 26 (.slice A sh.length c) (.slice B es.length d)
  obtain ⟨m, hm⟩ : ∃ m, mayT sh es = m := ⟨_, rfl⟩
  have P := Lib.hid (may_h _ _ _ sh es L m (Lib.hid hm) ((ha.low Im_pos).fr F) ((he.low Rm_pos).fr F) hL.out hL1 hl)
  have HX := Lib.hid (hx.low Im_pos)
  have HM := Lib.hid hm
  clear ha he hx hm
  have a0 := x0.c0
  have a1 := x0.c1
  go_enter Tryz.func41, Tryz.ntmps41
  go_wp2_with fail
  with_reducible refine P.out.mono ?_
  rintro e u ⟨rfl, hf⟩
  replace F := fr_then F hf
  replace x0 := x0.keep hf
  clear P hf a0 a1
  by_cases h0 : m = 0
  case neg =>
    have HN : r = m := hr.out.symm.trans ((if_pos (by rw [HM.out]; exact h0)).trans HM.out)
    go_wp2_with fail
    go_ret
    exact ⟨by first | rfl | (rw [HN]; rfl), F⟩
  subst h0
  have HR : Hid (axE axes sh.length = r) := Lib.hid ((if_neg (by rw [HM.out]; exact fun h => h rfl)).symm.trans hr.out)
  have HXu := Lib.hid (HX.out.fr F)
  clear HX
  go_wp2_with fail
  have DD := fun R => (Fr.refl R u).drew
  go_loop [15] (fun i => ∃ (j : Nat), j ≤ axes.length ∧ i = .int .i64 j ∧ Hid (∀ k, k < j → 0 ≤ axes.getD k 0 ∧ (0 < k → axes.getD (k - 1) 0 < axes.getD k 0))) (fun i => axes.length - (intOf i).toNat)
  case atStart => exact ⟨0, Nat.zero_le _, rfl, Lib.hid (fun k hk => by omega)⟩
  case round =>
    obtain ⟨j, hj, rfl, HK⟩ := hrel
    by_cases hlt : j < axes.length
    · obtain ⟨ad, rfl, hx, hx1, hx2⟩ := Kd.int_cell HXu.out (i := j) hlt
      have HG := Lib.hid (getI_at hlt)
      have hbad : ∀ (hc : axes[j] < 0 ∨ (0 < j ∧ axes[j] ≤ axes.getD (j - 1) 0)), r = 11 := fun hc => HR.out.symm.trans (if_neg fun h1 => by
        have h3 := h1 j hlt
        rw [HG.out] at h3
        rcases hc with hc | hc
        · omega
        · have := h3.2 hc.1; omega)
      generalize axes[j] = y at hx hx1 hx2 HG hbad
      by_cases h1 : y < 0
      · have HN := hbad (.inl h1)
        clear hbad
        go_wp2_with fail
        go_ret
        exact ⟨by first | rfl | (rw [HN]; rfl), F⟩
      · by_cases h2 : 0 < j
        · obtain ⟨ad', hA', hz, hz1, hz2⟩ := Kd.int_cell HXu.out (i := j - 1) (by omega)
          cases hA'
          have HG' := Lib.hid (getI_at (l := axes) (j := j - 1) (by omega))
          rw [HG'.out] at hbad
          generalize axes[j - 1] = z at hz hz1 hz2 HG' hbad
          have hw : IntKind.i64.wrap ((j : Int) - 1) = ((j - 1 : Nat) : Int) := by rw [IntKind.wrap_i64]; omega
          by_cases h3 : y ≤ z
          · have HN := hbad (.inr ⟨h2, h3⟩)
            clear hbad
            go_wp2_with fail
            go_ret
            exact ⟨by first | rfl | (rw [HN]; rfl), F⟩
          · clear hbad
            go_wp2_with fail
            go_round
            case rel =>
              refine ⟨j + 1, by omega, by go_num, Lib.hid fun k hk => ?_⟩
              rcases Nat.lt_succ_iff_lt_or_eq.1 hk with h | rfl
              · exact HK.out k h
              · rw [HG.out, HG'.out]
                exact ⟨by omega, fun _ => by omega⟩
            case measure => simp [intOf]; omega
        · clear hbad
          obtain rfl : j = 0 := by omega
          rw [addr_zero] at hx
          go_wp2_with fail
          go_round
          case rel =>
            refine ⟨1, by omega, by go_num, Lib.hid fun k hk => ?_⟩
            obtain rfl : k = 0 := by omega
            rw [HG.out]
            exact ⟨by omega, fun h => by omega⟩
          case measure => simp [intOf]; omega
    · obtain rfl : j = axes.length := by omega
      have HRi : Hid (Rise axes) := Lib.hid fun i hi => HK.out i hi
      obtain ⟨q, hq⟩ : ∃ q, axE6 axes sh.length = q := ⟨_, rfl⟩
      have P2 := Lib.hid (saxes_t u _ axes sh.length q (Lib.hid hq) HXu.out)
      have HQ := Lib.hid hq
      clear hq
      have a0 := x0.c0
      have a1 := x0.c1
      go_wp2_with fail
      with_reducible refine P2.out.mono ?_
      rintro e u2 ⟨rfl, hu⟩
      subst hu
      by_cases h1 : q = 0
      · subst h1
        have HN : r = 0 := HR.out.symm.trans ((if_pos HRi.out).trans (if_pos (by
          have h := HQ.out
          unfold axE6 at h
          split at h
          · rename_i hh; exact hh.2
          · exact absurd h (by decide))))
        go_wp2_with fail
        go_ret
        exact ⟨by first | rfl | (rw [HN]; rfl), F⟩
      · have HN : r = 13 := HR.out.symm.trans ((if_pos HRi.out).trans (if_neg fun h => h1 (HQ.out.symm.trans (if_pos ⟨HRi.out, h⟩))))
        go_wp2_with fail
        go_ret
        exact ⟨by first | rfl | (rw [HN]; rfl), F⟩

/-- An element is written. -/
theorem Own.set3 {e : TypeId} {S : Nat → Prop} {w : World} {g n c : Nat} {xs : List RatL} (h : Own Rm e S w (.slice (some ⟨g, 0, none⟩) n c) xs) {i : Nat} (hi : i < xs.length) (y : RatL) {vn vd : Value} (h1 : Sl Lm (fun k => S k ∧ k ≠ g) w vn y.2.1) (h2 : Sl Lm (fun k => S k ∧ k ≠ g) w vd y.2.2) :
    Own Rm e S (((w.setCell ⟨g, i * 3, none⟩ (.bool y.1)).setCell ⟨g, i * 3 + 1, none⟩ vn).setCell ⟨g, i * 3 + 2, none⟩ vd) (.slice (some ⟨g, 0, none⟩) n c) (xs.set i y) := by
  obtain ⟨cells, o, hS, hE⟩ := h
  have hF := ((fr_set1 w g (i * 3) (.bool y.1)).trans (fr_set1 _ g (i * 3 + 1) vn)).trans (fr_set1 _ g (i * 3 + 2) vd)
  have hn : xs.length = n := by
    rcases o.2 with ⟨h', _⟩ | ⟨g', cap', cur, h', _⟩
    · cases h'
    · cases h'; rfl
  subst hn
  have o1 := (((o.stored (i * 3) (.bool y.1)).1.stored (i * 3 + 1) vn).1.stored (i * 3 + 2) vd).1
  have hcl : cells.length = xs.length * 3 := o.1
  refine ⟨_, by rw [List.length_set]; exact o1, hS, fun k x hx => ?_⟩
  by_cases hk : k = i
  · subst hk
    rw [List.getElem?_set_self hi] at hx
    cases hx
    refine ⟨[.bool y.1, vn, vd], ⟨vn, vd, rfl, (h1.fr (hF.mono fun k _ hk => hk.2)).mono fun k hk => ⟨hk.1, fun e => hk.2 (by cases e; rfl)⟩, (h2.fr (hF.mono fun k _ hk => hk.2)).mono fun k hk => ⟨hk.1, fun e => hk.2 (by cases e; rfl)⟩⟩, fun j u hj => ?_⟩
    have hj3 : j < 3 := by have := (List.getElem?_eq_some_iff.1 hj).1; simpa using this
    show _ = some u
    rw [show Rm.size = 3 from rfl]
    obtain rfl | rfl | rfl : j = 0 ∨ j = 1 ∨ j = 2 := by omega
    · cases hj
      rw [List.getElem?_set_ne (by omega), List.getElem?_set_ne (by omega), Nat.add_zero, List.getElem?_set_self (by omega)]
    · cases hj
      rw [List.getElem?_set_ne (by omega), List.getElem?_set_self (by rw [List.length_set]; omega)]
    · cases hj
      rw [List.getElem?_set_self (by rw [List.length_set, List.length_set]; omega)]
  · rw [List.getElem?_set_ne (fun e => hk e.symm)] at hx
    obtain ⟨cs, hr, hu⟩ := hE k x hx
    refine ⟨cs, Rm.fr hr (hF.mono fun k _ hk => fun e => hk.2 (by rw [e]; rfl)), fun j u hj => ?_⟩
    have hj3 : j < 3 := by have := (List.getElem?_eq_some_iff.1 hj).1; rwa [Rm.len hr] at this
    have := hu j u hj
    rw [show Rm.size = 3 from rfl] at this ⊢
    rw [List.getElem?_set_ne (by omega), List.getElem?_set_ne (by omega), List.getElem?_set_ne (by omega)]
    exact this
/-- A row of one rational, so many times, is a list of the call's own. -/
theorem rep_own {S : Nat → Prop} {w : World} {g N : Nat} {s : Bool} {vn vd : Value} {xs ys : List Nat} (hx : Sl Lm (fun k => S k ∧ k ≠ g) w vn xs) (hy : Sl Lm (fun k => S k ∧ k ≠ g) w vd ys) (hS : S g) (hg : w.heap[g]? = some (.cells (List.replicate N [.bool s, vn, vd]).flatten.toArray 54 (0, 0))) (hN : N ≤ 1024) :
    Own Rm 54 S w (.slice (some ⟨g, 0, none⟩) N N) (List.replicate N (s, xs, ys)) := by
  have hl : (List.replicate N [Value.bool s, vn, vd]).flatten.length = N * 3 := rep_len _ _
  refine ⟨(List.replicate N [.bool s, vn, vd]).flatten, ⟨by rw [List.length_replicate]; exact hl, .inr ⟨g, N, _, by rw [List.length_replicate], Nat.zero_le _, hg, by rw [List.length_replicate]; exact Nat.le_refl _, by unfold maxLen; omega, by rw [List.size_toArray]; exact hl, List.take_of_length_le (by rw [List.length_replicate, hl]; exact Nat.le_refl _)⟩⟩, fun k hk => by cases hk; exact hS, fun i x hx' => ?_⟩
  have hi : i < N := by have := (List.getElem?_eq_some_iff.1 hx').1; rwa [List.length_replicate] at this
  rw [List.getElem?_replicate, if_pos hi] at hx'
  cases hx'
  refine ⟨[.bool s, vn, vd], ⟨vn, vd, rfl, hx.mono fun k hk => ⟨hk.1, fun e => hk.2 (by cases e; rfl)⟩, hy.mono fun k hk => ⟨hk.1, fun e => hk.2 (by cases e; rfl)⟩⟩, fun j u hj => ?_⟩
  have hj3 : j < 3 := by have := (List.getElem?_eq_some_iff.1 hj).1; simpa using this
  rw [show Rm.size = 3 from rfl, rep_get rfl (by omega), show (i * 3 + j) % 3 = j by omega]
  exact hj
set_option maxHeartbeats 4000000 in
theorem zeros_t {S : Nat → Prop} (w : World) (v : Value) (sh : List Int) (N : Nat) (h : Sl Im S w v sh) (hm : Hid (mayS sh = 0)) (hN : Hid (cntS sh = (N : Int))) :
    Calls Tryz.prog 42 #[v] w fun e w' => ∃ A n c g, e = .returned (.agg #[.slice A n c, .slice (some ⟨g, 0, none⟩) N N]) ∧ Own Im 3 (fun k => w.heap.size ≤ k) w' (.slice A n c) sh ∧ Own Rm 54 (fun k => w.heap.size ≤ k ∧ some k ≠ (Value.slice A n c).ownBlock) w' (.slice (some ⟨g, 0, none⟩) N N) (List.replicate N (canR 0)) ∧ Fr (fun k => k < w.heap.size) w w' := by
  obtain ⟨h4, h1, h2⟩ := mayS_ok hm.out
  have hN2 : N ≤ 1024 := by have := hN.out; rw [cntS_ok hm.out] at this; omega
  clear h1 h2
  obtain ⟨A, c, rfl, _, _, hlx⟩ := h.slice
  have F := (Fr.refl (fun k => k < w.heap.size) w).alloc (.cells #[.slice none 0 0, .slice none 0 0] 26)
  have b0 := Box2.new w 26 (.slice none 0 0) (.slice none 0 0)
  have HS := Lib.hid (h.low Im_pos)
  clear h
  go_enter Tryz.func42, Tryz.ntmps42
  go_wp2_with fail
  with_reducible refine (sclone_calls _ (.slice A sh.length c) sh (HS.out.fr F) (by omega)).mono ?_
  rintro e w1 ⟨v1, rfl, ho1, hf⟩
  obtain ⟨A1, n1, c1, rfl⟩ := ho1.form
  have s0 := F.size
  have o1 := ho1.bd
  replace F := fr_then F hf
  replace b0 := b0.keep hf
  have s1 := hf.size
  simp only [World.size_alloc] at s1 o1
  clear hf ho1
  go_wp2_with fail
  with_reducible refine (int_0 w1).mono ?_
  rintro e w2 ⟨s, vn, vd, rfl, hs, HV, hf⟩
  obtain ⟨P, p1, p2, rfl⟩ := HV.out.num.own.form
  obtain ⟨Q, q1, q2, rfl⟩ := HV.out.den.own.form
  have al := fun R => (Fr.refl R w2).alloc (.cells #[.bool s, .slice P p1 p2, .slice Q q1 q2] 54)
  have hrow := heap_alloc_new w2 (.cells #[.bool s, .slice P p1 p2, .slice Q q1 q2] 54)
  have o2 := (o1.keep' hf).keep' (al _)
  have n2 := HV.out.num.own.bd.keep' (al _)
  have d2 := HV.out.den.own.bd.keep' (al _)
  replace F := fr_then (fr_then F hf) (al _)
  replace b0 := (b0.keep hf).keep (al _)
  have s2 := hf.size
  have HSS := Lib.hid hs.out
  clear hf al o1 HV hs
  have HROW := Lib.hid hrow
  have PC := Lib.hid (shcount_calls (w2.alloc (.cells #[.bool s, .slice P p1 p2, .slice Q q1 q2] 54)) (.slice A sh.length c) sh (HS.out.fr F))
  rw [hN.out] at PC
  clear hrow
  go_wp2_with fail
  with_reducible refine PC.out.mono ?_
  rintro e w3 ⟨rfl, hu⟩
  subst hu
  clear PC
  go_wp2_with fail
  with_reducible refine (repeat_t _ _ s P Q p1 p2 q1 q2 N HROW.out hN2).mono ?_
  rintro e w4 ⟨g, rfl, hg, hc, hf⟩
  simp only [World.size_alloc] at hg
  have o3 := o2.keep' hf
  have n3 := n2.keep' hf
  have d3 := d2.keep' hf
  replace F := fr_then F hf
  replace b0 := b0.keep hf
  have lt1 := b0.lt
  have hS0 : s = false := by rw [HSS.out]; rfl
  subst hS0
  have hown : ∀ k, some k = (Value.slice A1 n1 c1).ownBlock → k < w1.heap.size := fun k hk => (o3.in_ k hk.symm).2
  have hsub : ∀ k, w1.heap.size ≤ k ∧ k < w2.heap.size → (w.heap.size ≤ k ∧ k ≠ w.heap.size ∧ some k ≠ (Value.slice A1 n1 c1).ownBlock) ∧ k ≠ g := fun k hk => ⟨⟨by omega, by omega, fun e => by have := hown k e; omega⟩, by omega⟩
  have OZ := rep_own (S := fun k => w.heap.size ≤ k ∧ k ≠ w.heap.size ∧ some k ≠ (Value.slice A1 n1 c1).ownBlock) (w := w4) (N := N) (s := false) (n3.sl.mono hsub) (d3.sl.mono hsub) ⟨by omega, by omega, fun e => by have := hown g e; omega⟩ hc hN2
  have o4 := o3.mono (T := fun k => w.heap.size ≤ k ∧ k ≠ w.heap.size) fun k hk => ⟨by omega, by omega⟩
  clear o2 o3 n2 d2 n3 d3 hsub hown hc HROW
  have a0 := b0.c0; have a1 := b0.c1; have a2 := b0.free 0; have a3 := b0.free 1
  go_wp2_with ((with_reducible apply wpList_st2); rfl; rfl; exact b0; exact ten2; rfl; rfl; intro w9 B9 F9)
  refine bodyPost_ret (results_cell2 rfl rfl B9 Tryz.underlying26 ten2) rfl ?_
  exact ⟨_, _, _, _, rfl, (o4.past F9 fun k hk => hk.2).mono fun k hk => hk.1, (OZ.past F9 fun k hk => hk.2.1).mono fun k hk => ⟨hk.1, hk.2.2⟩, F.comp F9 fun k _ hk => ⟨hk, by omega⟩⟩
end Go.Proofs.YtlppcfeimpcbjaaGreat


/- slices.Backward, shape.Index. -/
namespace Go.Proofs.YtlppcfeimpcbjaaGreat
open Go.RowKit Go.Shelf
attribute [local go_sem] Oper.semAt_some

set_option maxRecDepth 100000 in
set_option maxHeartbeats 4000000 in
theorem backward1_in (l B N : Nat) (A : Option Addr) (c : Nat) (S : Nat → Prop) (sh : List Int) (hn : N = sh.length) (hN : N ≤ 1099511627000) (J Jx : List (Fin N) → World → Prop) (W : World)
    (hb : Box W B 23 (.slice A N c)) (hS : S B) (hs : Sl Im S W (.slice A N c) sh) (hJ : AbidesFrom W.heap.size J)
    (hY : ∀ pre x W1, J pre W1 → pre.length < N → YieldAt Fence.wide (2 - 1) Tryz.prog l #[.int .i64 (N - 1 - x.val : Nat), .int .i64 (sh.getD (N - 1 - x.val) 0)] W1 fun e W' =>
      (e = .returned (.bool true) ∧ J (pre ++ [x]) W' ∧ Fr S W1 W') ∨ (e = .returned (.bool false) ∧ Jx (pre ++ [x]) W'))
    (h0 : J [] W) :
    CallsIn Fence.wide 2 Tryz.prog 125 #[.func (.yield l) #[] #[], .pointer (some ⟨B, 0, none⟩)] W fun e W' => (∃ v, e = .returned v) ∧
      ((∃ ys, ys = List.finRange N ∧ J ys W') ∨ (∃ pre, pre <+: List.finRange N ∧ Jx pre W')) := by
  subst hn
  have k1 := hb.cell
  have HY := Lib.hid hY
  have HS := Lib.hid hs
  clear hJ hY hs
  refine callsIn_of_wp Tryz.func125 rfl trivial ?_ rfl
  simp only [Tryz.ntmps125, List.size_toArray, List.length_cons, List.length_nil, Nat.reduceAdd, Nat.reduceSub, Array.replicate_succ, Array.replicate_zero, List.push_toArray, List.append_toArray, List.nil_append, List.cons_append]
  have hw0 : IntKind.i64.wrap ((sh.length : Int) - 1) = (sh.length : Int) - 1 := by rw [IntKind.wrap_i64]; omega
  gi_wp2
  gi_loopw [3] (fun i wr => ∃ k : Nat, k ≤ sh.length ∧ i = .int .i64 ((sh.length : Int) - 1 - k) ∧ J ((List.finRange sh.length).take k) wr ∧ Fr S W wr) (fun i _ => (intOf i + 1).toNat)
  case atStart => exact ⟨0, Nat.zero_le _, by simp, by simpa using h0, Fr.refl _ _⟩
  case round =>
    clear k1 hw0
    obtain ⟨k, hk, rfl, hJs, hF⟩ := hrel
    by_cases hlt : k < sh.length
    · have k1 := (hb.fr hF hS).cell
      have hj : sh.length - 1 - k < sh.length := by omega
      obtain ⟨ad, rfl, hx, hx1, hx2⟩ := Kd.int_cell (HS.out.fr hF) (i := sh.length - 1 - k) hj
      have e0 : ((sh.length : Int) - 1 - k) = ((sh.length - 1 - k : Nat) : Int) := by omega
      obtain ⟨fn, tmps, assign, body, hy, hR⟩ := HY.out _ ⟨k, hlt⟩ _ hJs (by rw [List.length_take, List.length_finRange]; omega)
      simp only [getI_at hj] at hy
      have hw : IntKind.i64.wrap (((sh.length - 1 - k : Nat) : Int) - 1) = ((sh.length : Int) - 1 - (k + 1 : Nat)) := by rw [IntKind.wrap_i64]; omega
      generalize sh[sh.length - 1 - k] = d at hx hx1 hx2 hy
      rw [e0]
      have HF := Lib.hid hF
      have HR := Lib.hid hR
      have HW := Lib.hid hw
      generalize hm : sh.length - 1 - k = m at hx hy hj e0
      have HM := Lib.hid hm
      clear hJs hF hR hm e0
      gi_wp2
      refine HR.out.mono ?_
      rintro e W3 hd
      obtain ⟨b, rfl, HD⟩ : ∃ b, e = .returned (.bool b) ∧ Hid ((b = true ∧ J ((List.finRange sh.length).take k ++ [⟨k, hlt⟩]) W3 ∧ Fr S wr W3) ∨ (b = false ∧ Jx ((List.finRange sh.length).take k ++ [⟨k, hlt⟩]) W3)) := (by rcases hd with ⟨rfl, h⟩ | ⟨rfl, h⟩; exact ⟨true, rfl, Lib.hid (.inl ⟨rfl, h⟩)⟩; exact ⟨false, rfl, Lib.hid (.inr ⟨rfl, h⟩)⟩)
      clear hd
      rcases HD.out with ⟨rfl, hJ3, hk3⟩ | ⟨rfl, hJx3⟩
      · gi_wp2
        go_roundw
        case rel => exact ⟨k + 1, by omega, by first | rfl | (congr 1; have := HM.out; omega) | (have := HM.out; congr 1), by rw [fin_take hlt]; exact hJ3, HF.out.trans hk3⟩
        case measure => have := HM.out; first | (simp [intOf]; done) | (simp [intOf]; omega)
      · gi_wp2
        refine bodyPost_ret (results_none rfl _ _ _) rfl ?_
        exact ⟨⟨_, rfl⟩, .inr ⟨_, by rw [← fin_take hlt]; exact List.take_prefix _ _, hJx3⟩⟩
    · obtain rfl : k = sh.length := by omega
      have hb1 : ¬ ((sh.length : Int) - 1 - sh.length ≥ 0) := by omega
      have hJe : J (List.finRange sh.length) wr := by rwa [List.take_of_length_le (by rw [List.length_finRange]; exact Nat.le_refl _)] at hJs
      gi_wp2
      go_end0
      first | exact ⟨⟨_, rfl⟩, .inl ⟨_, rfl, hJe⟩⟩ | exact ⟨⟨_, rfl⟩, .inl hJe⟩ | exact .inl hJe | exact hJe
theorem backward_stops (S : Nat → Prop) (w : World) (B N : Nat) (A : Option Addr) (c : Nat) (sh : List Int) (hn : N = sh.length) (hN : N ≤ 1099511627000)
    (hb : Box w B 23 (.slice A N c)) (hS : S B) (hs : Sl Im (fun k => S k ∧ k < w.heap.size) w (.slice A N c) sh) :
    SeqStopsK Fence.wide 2 Tryz.prog 125 #[.pointer (some ⟨B, 0, none⟩)] (fun x : Fin N => #[.int .i64 (N - 1 - x.val : Nat), .int .i64 (sh.getD (N - 1 - x.val) 0)]) (Fr S) (fun ys => ys = List.finRange N) (fun pre => pre <+: List.finRange N) N w :=
  fun l J Jx W hW hJ _ hY h0 =>
    have hf := Fr.of_below hW
    backward1_in l B N A c S sh hn hN J Jx W (hb.fr hf hb.lt) hS ((hs.fr (hf.mono fun k _ hk => hk.2)).mono fun k hk => hk.1) hJ hY h0
theorem backward_t (w : World) (A : Option Addr) (n c : Nat) :
    Calls Tryz.prog 94 #[.slice A n c] w fun e w' => e = .returned (.func (.func 125) #[] #[.pointer (some ⟨w.heap.size, 0, none⟩)]) ∧ Box w' w.heap.size 23 (.slice A n c) ∧ Fr (fun k => k < w.heap.size) w w' := by
  have F := (Fr.refl (fun k => k < w.heap.size) w).alloc (.cells #[.slice A n c] 23)
  have b1 := Box.new w 23 (.slice A n c)
  go_enter Tryz.func94, Tryz.ntmps94
  go_wp2_with fail
  go_ret
  exact ⟨rfl, b1, F⟩

/-- The digits of a place, from a shape's last dimension on. -/
def remD : List Int → Nat → List Int × Nat
  | [], p => ([], p)
  | d :: s, p => (((remD s p).2 % d.toNat : Nat) :: (remD s p).1, (remD s p).2 / d.toNat)
theorem remD_in : ∀ {s : List Int} {p : Nat}, (∀ d ∈ s, 1 ≤ d) → inL s (remD s p).1 ∧ (p : Int) = (remD s p).2 * pr s + ofsL s (remD s p).1
  | [], p, _ => ⟨trivial, by simp [remD, pr, ofsL]⟩
  | d :: s, p, h => by
    have hd := h d List.mem_cons_self
    obtain ⟨h1, h2⟩ := remD_in (s := s) (p := p) fun x hx => h x (List.mem_cons_of_mem _ hx)
    rw [remD]
    obtain ⟨n, rfl⟩ : ∃ n : Nat, d = n := ⟨d.toNat, by omega⟩
    rw [Int.toNat_natCast]
    generalize (remD s p).2 = q at h2 ⊢
    have hn : 0 < n := by omega
    refine ⟨⟨by omega, by have := Nat.mod_lt q hn; omega, h1⟩, ?_⟩
    simp only [ofsL, pr]
    have e := congrArg (fun x : Nat => (x : Int)) (Nat.div_add_mod q n)
    simp only [Int.natCast_add, Int.natCast_mul] at e
    rw [h2, ← e, Int.add_mul, Int.mul_comm (n : Int), Int.mul_assoc, Int.add_assoc]
theorem remD_seq {s : List Int} {p : Nat} (h : ∀ d ∈ s, 1 ≤ d) (hp : (p : Int) < pr s) : (remD s p).1 = seqI s p := by
  obtain ⟨h1, h2⟩ := remD_in (p := p) h
  obtain ⟨h3, h4⟩ := ofsL_lt h1
  have hp0 := pr_pos h
  have h0 : (remD s p).2 = 0 := by
    rcases Nat.eq_zero_or_pos (remD s p).2 with h0 | h0
    · exact h0
    · have : 1 * pr s ≤ ((remD s p).2 : Int) * pr s := Int.mul_le_mul_of_nonneg_right (by omega) (by omega)
      omega
  rw [h0] at h2
  exact ((seq_of h h1 hp).2 (by omega)).symm
/-- A round of Index. -/
def ixS (sh : List Int) (s : List Int × Nat) (x : Fin sh.length) : List Int × Nat :=
  (s.1.set (sh.length - 1 - x.val) (s.2 % (sh.getD (sh.length - 1 - x.val) 0).toNat : Nat), s.2 / (sh.getD (sh.length - 1 - x.val) 0).toNat)
def ixF (sh : List Int) (p : Nat) (pre : List (Fin sh.length)) : List Int × Nat := pre.foldl (ixS sh) (List.replicate sh.length 0, p)
theorem ixF_snoc (sh : List Int) (p : Nat) (pre : List (Fin sh.length)) (x : Fin sh.length) : ixF sh p (pre ++ [x]) = ixS sh (ixF sh p pre) x := by simp [ixF]
theorem ixF_len (sh : List Int) (p : Nat) (pre : List (Fin sh.length)) : (ixF sh p pre).1.length = sh.length := by
  suffices h : ∀ (pre : List (Fin sh.length)) (s : List Int × Nat), s.1.length = sh.length → (pre.foldl (ixS sh) s).1.length = sh.length from h pre _ (by rw [List.length_replicate])
  intro pre
  induction pre with
  | nil => intro s h; exact h
  | cons x l ih => intro s h; exact ih _ (by rw [ixS, List.length_set]; exact h)
theorem ixF_le (sh : List Int) (p : Nat) (pre : List (Fin sh.length)) : (ixF sh p pre).2 ≤ p := by
  suffices h : ∀ (pre : List (Fin sh.length)) (s : List Int × Nat), s.2 ≤ p → (pre.foldl (ixS sh) s).2 ≤ p from h pre _ (Nat.le_refl _)
  intro pre
  induction pre with
  | nil => intro s h; exact h
  | cons x l ih => intro s h; exact ih _ (Nat.le_trans (Nat.div_le_self _ _) h)
theorem ixF_take (sh : List Int) (p : Nat) : ∀ k, k ≤ sh.length → ixF sh p ((List.finRange sh.length).take k) = (List.replicate (sh.length - k) 0 ++ (remD (sh.drop (sh.length - k)) p).1, (remD (sh.drop (sh.length - k)) p).2)
  | 0, _ => by
    rw [List.take_zero, Nat.sub_zero, List.drop_length]
    simp [ixF, remD]
  | k + 1, hk => by
    rw [fin_take (by omega), ixF_snoc, ixF_take sh p k (by omega)]
    have hj : sh.length - 1 - k < sh.length := by omega
    have e1 : sh.length - k = (sh.length - (k + 1)) + 1 := by omega
    have e2 : sh.length - 1 - k = sh.length - (k + 1) := by omega
    have hd : sh.drop (sh.length - (k + 1)) = sh.getD (sh.length - (k + 1)) 0 :: sh.drop (sh.length - k) := by
      rw [List.drop_eq_getElem_cons (by omega), getI_at (by omega), ← e1]
    rw [hd, remD, ixS]
    simp only [e2]
    refine Prod.ext ?_ rfl
    show List.set _ _ _ = _ ++ _ :: _
    rw [e1, List.replicate_succ', List.append_assoc]
    have := iset_mid (List.replicate (sh.length - (k + 1)) 0) (remD (sh.drop (sh.length - k)) p).1 0 (((remD (sh.drop (sh.length - k)) p).2 % (sh.getD (sh.length - (k + 1)) 0).toNat : Nat) : Int)
    rw [List.length_replicate] at this
    rw [← e1]
    exact this
theorem ixF_all (sh : List Int) (p : Nat) : ixF sh p (List.finRange sh.length) = remD sh p := by
  have := ixF_take sh p sh.length (Nat.le_refl _)
  rw [List.take_of_length_le (by rw [List.length_finRange]; exact Nat.le_refl _), Nat.sub_self, List.drop_zero] at this
  exact this
end Go.Proofs.YtlppcfeimpcbjaaGreat


/- shape.Index: printed by gen_fof.py. -/
namespace Go.Proofs.YtlppcfeimpcbjaaGreat
open Go.RowKit Go.Shelf
attribute [local go_sem] Oper.semAt_some

/-- What lies in memory in Index' rounds. -/
def IxI (sh : List Int) (p : Nat) (bp bo g n0 : Nat) (w : World) (pre : List (Fin sh.length)) (W : World) : Prop :=
  Box W bp 3 (.int .i64 ((ixF sh p pre).2 : Nat)) ∧ Box W bo 22 (.slice (some ⟨g, 0, none⟩) sh.length sh.length) ∧ Own Im 3 (fun k => k = g) W (.slice (some ⟨g, 0, none⟩) sh.length sh.length) (ixF sh p pre).1 ∧ Fr (fun k => k < n0 ∧ k ≠ bp ∧ k ≠ g) w W
theorem IxI.own {sh : List Int} {p bp bo g n0 : Nat} {w : World} : OwnFrom n0 (fun pre W => IxI sh p bp bo g n0 w pre W) := fun pre W W' row hs hg hr => by
  obtain ⟨h1, h2, h3, h4⟩ := hs
  exact ⟨grown_cells hg hr h1, grown_cells hg hr h2, h3.turn (fun _ _ _ h => Kd.int_any h) hg hr, h4.comp (Fr.of_grown hg) fun k _ hk => ⟨hk, fun e => by have := (hr k e.symm).1; omega⟩⟩
set_option maxRecDepth 100000 in
set_option maxHeartbeats 8000000 in
theorem shindex_t {S : Nat → Prop} (w : World) (v : Value) (sh : List Int) (p : Nat) (h : Sl Im S w v sh) (hm : Hid (mayS sh = 0)) (hp : Hid ((p : Int) < pr sh)) :
    Calls Tryz.prog 45 #[v, .int .i64 (p : Int)] w fun e w' => ∃ A n c, e = .returned (.tuple #[.slice A n c, .int .i64 0]) ∧ Own Im 3 (fun k => w.heap.size ≤ k) w' (.slice A n c) (seqI sh p) ∧ Fr (fun k => k < w.heap.size) w w' := by
  obtain ⟨h4, h1, h2⟩ := mayS_ok hm.out
  obtain ⟨A, c, rfl, _, _, hlx⟩ := h.slice
  obtain ⟨N, hN⟩ : ∃ N : Nat, pr sh = (N : Int) := ⟨(pr sh).toNat, by have := pr_pos h1; omega⟩
  have hpN : p < N := by have := hp.out; omega
  have hN2 : N ≤ 1024 := by omega
  have x3 := Box.new w 3 (.int .i64 (p : Int))
  have F := (Fr.refl (fun k => k < w.heap.size) w).alloc (.cells #[.int .i64 (p : Int)] 3)
  have HS := Lib.hid ((h.low Im_pos).fr F)
  have P1 := Lib.hid (shmay_calls _ (.slice A sh.length c) sh HS.out)
  rw [hm.out] at P1
  have HPN := Lib.hid hN
  have H1 := Lib.hid h1
  have hmk := make_ints sh.length (by omega)
  clear h h2 hN h1
  refine (callsIn_wide (n := 3)).1 ?_
  refine callsIn_of_wp_marks Tryz.func45 rfl trivial ?_ rfl
  simp only [Tryz.ntmps45, List.size_toArray, List.length_cons, List.length_nil, Nat.reduceAdd, Nat.reduceSub, Array.replicate_succ, Array.replicate_zero, List.push_toArray, List.append_toArray, List.nil_append, List.cons_append]
  gi_wp2_with fail
  refine ⟨trivial, ?_⟩
  with_reducible refine (callsIn_wide.2 P1.out).mono ?_
  rintro e u ⟨rfl, hu⟩
  subst hu
  generalize hW : w.alloc (.cells #[.int .i64 (p : Int)] 3) = W at HS x3 F ⊢
  have sW : W.heap.size = w.heap.size + 1 := by rw [← hW, World.size_alloc]
  clear hW P1
  have HSd := Lib.hid (HS.out.fr (Fr.refl _ W).drew)
  have P5 : Hid (∀ u, Sl Im (fun k => k < w.heap.size) u (.slice A sh.length c) sh → Calls Tryz.prog 93 #[.slice A sh.length c] u fun e w' => e = .returned (.int .i64 (N : Int)) ∧ w' = u) := Lib.hid fun u hu => by
    have := product_calls u (.slice A sh.length c) sh hu H1.out
    rwa [HPN.out, if_neg (by omega)] at this
  have xd := x3.fr ((Fr.refl (fun _ => True) W).drew) trivial
  have Fd := F.drew
  have hp0 : ¬ ((p : Int) < 0) := by omega
  have hp1 : ¬ ((p : Int) ≥ (N : Int)) := by omega
  have sD : w.heap.size < W.drew.heap.size := by show w.heap.size < W.heap.size; omega
  gi_wp2_with fail
  refine wpIn_wide.2 (wp_calm ?_)
  refine wpTill.begin (fun _ => True) 7 (by kernel_rfl) ?_
  change wpTill _ _ _ _ _ _ 8 _ _ _
  refine wpTill.free (jj := 7) (m := 0) [(0, Fact.eq (.int .i64 (p : Int))),
      (1, Fact.eq (.bool false)),
      (2, Fact.eq (.bool false)),
      (3, Fact.eq (.int .i64 (p : Int))),
      (4, Fact.eq (.slice A sh.length c)),
      (5, Fact.eq (.int .i64 (N : Int))),
      (6, Fact.eq (.bool false)),
      (7, Fact.eq (.bool false))] [] [0, 1, 3, 7, 7, 23, 63, 127] [] ?_ (by kernel_rfl) (by kernel_rfl) (by kernel_rfl) [(0, some 15), (1, some 16), (2, some 17), (3, some 18), (4, some 19), (5, some 20), (6, some 21), (7, some 22)] (by kernel_rfl) ?hA ?hQ (fun _ _ => trivial) (by kernel_rfl) ?steps ?looses ?cont
  case hQ => exact fun c _ _ _ _ h => absurd rfl (h.1 c)
  case hA =>
    intro vs
    simp only [fillD, List.foldl_cons, List.foldl_nil, Act.put, List.setIfInBounds_toArray, List.set_cons_zero, List.set_cons_succ]
    exact rfl
  case steps =>
    refine ⟨?_, ?_, ?_, ?_, ?_, ?_, ?_, ?_, trivial⟩
    · rintro vs u ⟨hV0, hV1, hV2, hV3, hV4, hV5, hV6, hV7, -⟩ G
      have o0 := (xd.fr G sD).cell
      exact stepAt.pure (v := .int .i64 (p : Int)) rfl rfl (by go_simp) rfl
    · rintro vs u ⟨hV0, hV1, hV2, hV3, hV4, hV5, hV6, hV7, -⟩ G
      have eV0 : vs 0 = .int .i64 (p : Int) := hV0 rfl
      exact stepAt.pure (v := .bool false) rfl rfl (by simp only [eV0]; go_simp <;> omega) rfl
    · rintro vs u ⟨hV0, hV1, hV2, hV3, hV4, hV5, hV6, hV7, -⟩ G
      have eV1 : vs 1 = .bool false := hV1 rfl
      exact stepAt.pure (v := .bool false) rfl rfl (by simp only [eV1]; go_simp) rfl
    · rintro vs u ⟨hV0, hV1, hV2, hV3, hV4, hV5, hV6, hV7, -⟩ G
      have o0 := (xd.fr G sD).cell
      have eV2 : vs 2 = .bool false := hV2 rfl
      exact stepAt.pure (v := .int .i64 (p : Int)) rfl (wanted_by (g := 2) (b := false) (t := 17) rfl (by kernel_rfl) (congrArg some (show vs 2 = _ from hV2 rfl))) (by simp only [eV2]; go_simp) rfl
    · rintro vs u ⟨hV0, hV1, hV2, hV3, hV4, hV5, hV6, hV7, -⟩ G
      exact stepAt.pure (v := .slice A sh.length c) rfl (wanted_by (g := 2) (b := false) (t := 17) rfl (by kernel_rfl) (congrArg some (show vs 2 = _ from hV2 rfl))) (by go_simp) rfl
    · rintro vs u ⟨hV0, hV1, hV2, hV3, hV4, hV5, hV6, hV7, -⟩ G
      refine stepAt.call (f := 93) (args := #[vs 4]) rfl (wanted_by (g := 2) (b := false) (t := 17) rfl (by kernel_rfl) (congrArg some (show vs 2 = _ from hV2 rfl))) (by go_simp) ?_
      have eV4 : vs 4 = .slice A sh.length c := hV4 rfl
      rw [eV4]
      with_reducible refine (P5.out u (HSd.out.fr (G.mono fun k _ hk => by have := sD; omega))).mono ?_
      rintro e u' ⟨rfl, hu⟩
      subst hu
      exact ⟨_, rfl, Fr.refl _ _, rfl⟩
    · rintro vs u ⟨hV0, hV1, hV2, hV3, hV4, hV5, hV6, hV7, -⟩ G
      have eV3 : vs 3 = .int .i64 (p : Int) := hV3 rfl
      have eV5 : vs 5 = .int .i64 (N : Int) := hV5 rfl
      exact stepAt.pure (v := .bool false) rfl (wanted_by (g := 2) (b := false) (t := 17) rfl (by kernel_rfl) (congrArg some (show vs 2 = _ from hV2 rfl))) (by simp only [eV3, eV5]; go_simp <;> omega) rfl
    · rintro vs u ⟨hV0, hV1, hV2, hV3, hV4, hV5, hV6, hV7, -⟩ G
      have eV2 : vs 2 = .bool false := hV2 rfl
      have eV6 : vs 6 = .bool false := hV6 rfl
      exact stepAt.pure (v := .bool false) rfl rfl (by simp only [eV2, eV6]; go_simp) rfl
  case looses =>
    exact trivial
  case cont =>
    rintro vs u ⟨hV0, hV1, hV2, hV3, hV4, hV5, hV6, hV7, -⟩ G
    have eV0 : vs 0 = .int .i64 (p : Int) := hV0
    have eV1 : vs 1 = .bool false := hV1
    have eV2 : vs 2 = .bool false := hV2
    have eV3 : vs 3 = .int .i64 (p : Int) := hV3
    have eV4 : vs 4 = .slice A sh.length c := hV4
    have eV5 : vs 5 = .int .i64 (N : Int) := hV5
    have eV6 : vs 6 = .bool false := hV6
    have eV7 : vs 7 = .bool false := hV7
    simp only [eV0, eV1, eV2, eV3, eV4, eV5, eV6, eV7]
    clear eV0 eV1 eV2 eV3 eV4 eV5 eV6 eV7 hV0 hV1 hV2 hV3 hV4 hV5 hV6 hV7
    refine wpTill.done (by kernel_rfl) ?_
    refine ⟨fun _ h => (nomatch h), ?_⟩
    have x4 := xd.fr G sD
    have HS4 := Lib.hid (HSd.out.fr (G.mono (T := fun k => k < w.heap.size) fun k _ hk => by have := sD; omega))
    have F4 := Fd.comp G (R := fun k => k < w.heap.size) fun k _ hk => ⟨hk, by have := sD; omega⟩
    have s4 := G.size
    have G0 := hmk u
    clear HSd HS x3 xd F Fd hp0 hp1 P5 sW G hmk
    gi_wp2_with fail
    have x5 := (x4.alloc (.cells (Array.replicate sh.length (Value.int .i64 0)) 3)).alloc (.cells #[.slice (some ⟨u.heap.size, 0, none⟩) sh.length sh.length] 22)
    have bo := Box.new (u.alloc (.cells (Array.replicate sh.length (Value.int .i64 0)) 3)) 22 (.slice (some ⟨u.heap.size, 0, none⟩) sh.length sh.length)
    have ow := Own.ints (e := 3) (S := fun k => k = u.heap.size) u (List.replicate sh.length 0) (Array.replicate sh.length (Value.int .i64 0)) (by simp) (fun x hx => by rw [List.eq_of_mem_replicate hx]; decide) (by rw [List.length_replicate]; omega) rfl
    rw [List.length_replicate] at ow
    have al := fun R => ((Fr.refl R u).alloc (.cells (Array.replicate sh.length (Value.int .i64 0)) 3)).alloc (.cells #[.slice (some ⟨u.heap.size, 0, none⟩) sh.length sh.length] 22)
    replace ow := ow.keep' ((Fr.refl (fun k => k < (u.alloc (.cells (Array.replicate sh.length (Value.int .i64 0)) 3)).heap.size) _).alloc (.cells #[.slice (some ⟨u.heap.size, 0, none⟩) sh.length sh.length] 22))
    have HS5 := HS4.out.fr (al _)
    have F5 := F4.trans (al _)
    rw [World.size_alloc] at bo
    have s5 := x4.lt
    clear HS4 F4 al x4 G0
    refine ⟨trivial, ?_⟩
    with_reducible refine (callsIn_wide.2 (backward_t _ _ _ _)).mono ?_
    rintro e W3 ⟨rfl, p1, hf3⟩
    replace x5 := Box.fr x5 hf3 (by simp only [World.size_alloc]; omega)
    replace bo := Box.fr bo hf3 (by simp only [World.size_alloc]; omega)
    replace ow := ow.keep' hf3
    replace HS5 := HS5.fr (hf3.mono fun k hk hk' => hk)
    replace F5 := fr_then F5 hf3
    have s3 := hf3.size
    simp only [World.size_alloc] at s3 p1
    have l1 := p1.lt
    have hel : 1 ≤ 1 := Nat.le_refl 1
    clear hf3
    gi_wp2_with fail
    refine act_named (p := fun A => Code.wpIn _ _ _ _ _ A _) _ (fun A0 hA0 => ?_)
    refine wpIn_rangeFunc_ownH (F := Fence.wide) rfl (by omega) (gf := 125) (lb := #[.pointer (some ⟨u.heap.size + 1 + 1, 0, none⟩)]) (by rw [hA0]; rfl) trivial (enter_of Tryz.func125 (by decide) rfl)
      (backward_stops (fun k => k < W3.heap.size ∧ k ≠ w.heap.size ∧ k ≠ u.heap.size) W3 (u.heap.size + 1 + 1) sh.length A c sh rfl (by omega) p1 ⟨by omega, by omega, by omega⟩ (HS5.mono fun k hk => ⟨⟨by omega, by omega, by omega⟩, by omega⟩)) frK_t (frK_b (by intro k hk; exact hk.1)) (Below.refl _ _) (fun _ => rfl)
      (IxI sh p w.heap.size (u.heap.size + 1) u.heap.size W3.heap.size W3) (fun _ _ _ => False) IxI.own (fun cc => fun _ _ _ _ h _ _ => h) ⟨x5, bo, ow, Fr.refl _ _⟩
      (fun x a _ => a = { tmps := (((A0.tmps.setIfInBounds 28 (.int .i64 (sh.length - 1 - x.val : Nat))).setIfInBounds 29 (.int .i64 (sh.getD (sh.length - 1 - x.val) 0))).setIfInBounds 8 (.int .i64 (sh.length - 1 - x.val : Nat))).setIfInBounds 9 (.int .i64 (sh.getD (sh.length - 1 - x.val) 0)), defers := [] }) (fun x a' => fun _ _ _ _ hs _ _ => hs) ?assign ?body ?done ?stop
    case assign =>
      intro l pre x W K' hI hK'
      subst hA0
      have HK := Lib.hid hK'
      clear hK'
      gi_wp2
      exact HK.out _ _ (keeps_fr _ (Fr.refl _ _)) (Fr.refl _ _) hI rfl
    case body =>
      rintro l pre x a' W hl' - ⟨h1, h2, h3, h5⟩ rfl hpre
      subst hA0
      have hj : sh.length - 1 - x.val < sh.length := by have := x.isLt; omega
      have hd1 := H1.out _ (List.getElem_mem hj)
      have HX := Lib.hid (ixF_snoc sh p pre x)
      unfold ixS at HX
      have hle := ixF_le sh p pre
      have hln := ixF_len sh p pre
      have hdm : sh.getD (sh.length - 1 - x.val) 0 ≤ 1024 := by
        obtain ⟨_, _, h8⟩ := mayS_ok hm.out
        have h9 := pr_take_le H1.out (sh.length - 1 - x.val + 1)
        rw [pr_take hj] at h9
        have h10 := Int.mul_le_mul_of_nonneg_right (pr_take_pos H1.out (sh.length - 1 - x.val)) (show 0 ≤ sh[sh.length - 1 - x.val] by omega)
        rw [getI_at hj]
        omega
      rw [← getI_at hj] at hd1
      generalize hjj : sh.length - 1 - x.val = j at hj hd1 HX hdm
      obtain ⟨dn, hdn⟩ : ∃ dn : Nat, sh.getD j 0 = dn := ⟨(sh.getD j 0).toNat, by omega⟩
      rw [hdn] at hd1 hdm
      rw [hdn, Int.toNat_natCast] at HX
      have hdn0 : dn ≠ 0 := by omega
      obtain ⟨q, hq⟩ : ∃ q, (ixF sh p pre).2 = q := ⟨_, rfl⟩
      rw [hq] at HX hle h1
      obtain ⟨xs, hxs⟩ : ∃ xs, (ixF sh p pre).1 = xs := ⟨_, rfl⟩
      rw [hxs] at HX hln h3
      have D := fun R => (Fr.refl R W).drew
      have h1d := h1.fr (D (fun _ => True)) trivial
      have h2d := h2.fr (D (fun _ => True)) trivial
      obtain ⟨g', hg', hS', hlt', hc', hfr', hset⟩ := h3.int_at (j := j) (by omega)
      cases hg'
      have c0f : W.drew.frozen? ⟨u.heap.size, j, none⟩ = false := hfr'
      have c0c : W.drew.cell? ⟨u.heap.size, j, none⟩ = some (.int .i64 xs[j]) := hc'
      have hqr : q % dn < dn := Nat.mod_lt _ (by omega)
      have hqd : q / dn ≤ q := Nat.div_le_self _ _
      obtain ⟨z, hz⟩ : ∃ z, q % dn = z := ⟨_, rfl⟩
      obtain ⟨r, hr⟩ : ∃ r, q / dn = r := ⟨_, rfl⟩
      have hw : Int.tmod (q : Int) (dn : Int) = (z : Int) := by rw [← hz]; rfl
      have hw2 : Int.tdiv (q : Int) (dn : Int) = (r : Int) := by rw [← hr]; rfl
      rw [hz, hr] at HX
      rw [hz] at hqr
      rw [hr] at hqd
      have HW := Lib.hid hw
      have HW2 := Lib.hid hw2
      have k3 := hset (z : Int) (by omega) (by omega)
      have FS := fr_set1 W u.heap.size j (.int .i64 (z : Int))
      have k1 := (h1.fr FS (by omega)).fr ((Fr.refl (fun _ => True) (W.setCell ⟨u.heap.size, j, none⟩ (.int .i64 (z : Int)))).drew) trivial
      have k2 := (h2.fr FS (by omega)).fr ((Fr.refl (fun _ => True) (W.setCell ⟨u.heap.size, j, none⟩ (.int .i64 (z : Int)))).drew) trivial
      have c1 := h1d.cell
      have c2 := h2d.cell
      clear hset hc' hfr' hz hr hw hw2
      have S0 : W.drew.cell? ⟨w.heap.size, 0, none⟩ = some (.int .i64 (q : Int)) ∧ W.drew.cell? ⟨u.heap.size + 1, 0, none⟩ = some (.slice (some ⟨u.heap.size, 0, none⟩) sh.length sh.length) := ⟨c1, c2⟩
      simp only [hjj, hdn]
      gi_wp2_with fail
      refine wpTill.beginIn (fun v => v.cell? ⟨w.heap.size, 0, none⟩ = some (.int .i64 (q : Int)) ∧ v.cell? ⟨u.heap.size + 1, 0, none⟩ = some (.slice (some ⟨u.heap.size, 0, none⟩) sh.length sh.length)) 6 (by kernel_rfl) (by kernel_rfl) (by rintro ⟨_, _, h⟩; exact h) ?_
      change wpTill _ _ _ _ _ _ 7 _ _ _
      refine wpTill.take 0 (.slice (some ⟨u.heap.size, 0, none⟩) sh.length sh.length) rfl (by kernel_rfl) (by kernel_rfl) (fun _ _ _ h => h) S0 (by rfl) (fun u hu => by go_simp) ?_
      try simp only [Act.put, List.setIfInBounds_toArray, List.set_cons_zero, List.set_cons_succ]
      refine wpTill.take 1 (.int .i64 (j : Int)) rfl (by kernel_rfl) (by kernel_rfl) (fun _ _ _ h => h) S0 (by rfl) (fun u hu => by go_simp) ?_
      try simp only [Act.put, List.setIfInBounds_toArray, List.set_cons_zero, List.set_cons_succ]
      refine wpTill.take 2 (.int .i64 (q : Int)) rfl (by kernel_rfl) (by kernel_rfl) (fun _ _ _ h => h) S0 (by rfl) (fun u hu => by go_simp) ?_
      try simp only [Act.put, List.setIfInBounds_toArray, List.set_cons_zero, List.set_cons_succ]
      refine wpTill.take 3 (.int .i64 (dn : Int)) rfl (by kernel_rfl) (by kernel_rfl) (fun _ _ _ h => h) S0 (by rfl) (fun u hu => by go_simp) ?_
      try simp only [Act.put, List.setIfInBounds_toArray, List.set_cons_zero, List.set_cons_succ]
      refine wpTill.take 4 (.int .i64 (z : Int)) rfl (by kernel_rfl) (by kernel_rfl) (fun _ _ _ h => h) S0 (by rfl) (fun u hu => by go_simp; try (have hw := HW.out; simp_all)) ?_
      try simp only [Act.put, List.setIfInBounds_toArray, List.set_cons_zero, List.set_cons_succ]
      refine wpTill.take 5 (.pointer (some ⟨u.heap.size, j, none⟩)) rfl (by kernel_rfl) (by kernel_rfl) (fun _ _ _ h => h) S0 (by rfl) (fun u hu => by go_simp) ?_
      try simp only [Act.put, List.setIfInBounds_toArray, List.set_cons_zero, List.set_cons_succ]
      refine wpTill.next 6 rfl (by kernel_rfl) (by rfl) (fun KC hKC => ?_)
      go_simp
      refine hKC _ _ (no_wait (by kernel_rfl)) ?_
      clear hKC KC
      try simp only [Act.put, List.setIfInBounds_toArray, List.set_cons_zero, List.set_cons_succ]
      refine wpTill.done (by kernel_rfl) ?_
      have e1 := k1.cell
      have e2 := k1.free
      have hw2 := HW2.out
      have FS2 := fr_set1 (W.setCell ⟨u.heap.size, j, none⟩ (.int .i64 (z : Int))) w.heap.size 0 (.int .i64 (r : Int))
      have m1 := Box.set (h1.fr FS (by omega)) (.int .i64 (r : Int))
      have m2 := (h2.fr FS (by omega)).fr FS2 (by omega)
      have m3 := k3.past FS2 (fun k hk => by omega)
      have DD := fun R => (Fr.refl R ((W.setCell ⟨u.heap.size, j, none⟩ (.int .i64 (z : Int))).setCell ⟨w.heap.size, 0, none⟩ (.int .i64 (r : Int)))).drew
      have F9 : Fr (fun k => k < W3.heap.size ∧ k ≠ w.heap.size ∧ k ≠ u.heap.size) W ((W.setCell ⟨u.heap.size, j, none⟩ (.int .i64 (z : Int))).setCell ⟨w.heap.size, 0, none⟩ (.int .i64 (r : Int))).drew := (FS.comp FS2 fun k _ hk => ⟨hk.2.2, hk.2.1⟩).drew
      clear c1 c2 S0
      gi_wp2_with fail
      refine ⟨((keeps_cell _ _ _ _).trans (keeps_cell _ _ _ _)).trans ((KeepsOthers.drew _).from _), F9, ?_, ?_, ?_, h5.trans F9⟩
      · rw [HX.out]
        exact m1.fr (DD (fun _ => True)) trivial
      · exact m2.fr (DD (fun _ => True)) trivial
      · rw [HX.out]
        exact m3.fr (DD _)
    case done =>
      rintro D ys W hD rfl ⟨h1, h2, h3, h5⟩ hK
      subst hA0
      rw [ixF_all, remD_seq H1.out hp.out] at h3
      have c2 := h2.cell
      have F8 := F5.comp h5 (R := fun k => k < w.heap.size) fun k _ hk => ⟨hk, by omega, by omega, by omega⟩
      gi_wp2
      have gr := grownBy_putObj' W D (.deferred none)
      have hrw : ∀ r, some D = some r → 0 ≤ r ∧ ∃ o : Obj, W.heap[r]? = some o ∧ o.isCells = false := fun r e => by cases e; exact ⟨Nat.zero_le _, _, hK, rfl⟩
      exact leaves_mark hK rfl (by simp [results, Tryz.f45, go_sem]) ⟨_, _, _, rfl, (h3.turn (fun _ _ _ h => Kd.int_any h) gr hrw).mono fun k hk => by omega, F8.comp (Fr.of_grown gr) fun k hk hk' => ⟨hk', fun e => by cases e; omega⟩⟩ rfl
    case stop => rintro D cc pre W hD hpre h hK; exact h.elim
end Go.Proofs.YtlppcfeimpcbjaaGreat


/- fold.Sum's function of places: printed by gen_fog.py. -/
namespace Go.Proofs.YtlppcfeimpcbjaaGreat
open Go.RowKit Go.Shelf
attribute [local go_sem] Oper.semAt_some

set_option maxRecDepth 100000 in
set_option maxHeartbeats 8000000 in
theorem sum1_t {S T U : Nat → Prop} (w : World) (i bx bo ba : Nat) (vs ve vo v2 va : Value) (sh axes : List Int) (hbx : Box2 w bx 26 vs ve) (hbo : Box2 w bo 26 vo v2) (hba : Box w ba 22 va) (hs : Sl Im S w vs sh) (ho : Sl Im T w vo (dropI axes 0 sh)) (hx : Sl Im U w va axes) (hm : Hid (mayS sh = 0)) (hi : Hid ((i : Int) < pr sh)) :
    Calls Tryz.prog 44 #[.int .i64 (i : Int), .pointer (some ⟨bx, 0, none⟩), .pointer (some ⟨bo, 0, none⟩), .pointer (some ⟨ba, 0, none⟩)] w fun e w' => e = .returned (.int .i64 (plc sh axes i : Nat)) ∧ Fr (fun k => k < w.heap.size) w w' := by
  obtain ⟨A, c, rfl, _, _, hlx⟩ := hs.slice
  obtain ⟨Q, m2, k2, rfl⟩ := ho.form
  obtain ⟨C, f, rfl, _, _, hlz⟩ := hx.slice
  have HOFF : Hid (∀ (u : World) (v1 v2 : Value), Sl Im (fun k => k < w.heap.size) u v1 (dropI axes 0 sh) → Sl Im (fun _ => True) u v2 (dropI axes 0 (seqI sh i)) → Calls Tryz.prog 46 #[v1, v2] u fun e w' => e = .returned (.tuple #[.int .i64 (plc sh axes i : Nat), .int .i64 0]) ∧ w' = u) := Lib.hid fun u v1 v2 h1 h2 => by
    obtain ⟨_, g1, _⟩ := mayS_ok hm.out
    have hin := drop_in (axes := axes) (i := 0) (seq_in g1 hi.out).1
    have hl := inL_len hin
    have h0 := (offE_in (drop_may (axes := axes) hm.out) hl).1.2 hin
    have := offset_t u v1 v2 (dropI axes 0 sh) (dropI axes 0 (seqI sh i)) h1 h2
    rw [h0, if_pos rfl, ofs_L hl, ← (plc_lt (axes := axes) g1 hi.out).1] at this
    exact this
  have HL := Lib.hid (show (seqI sh i).length ≤ 1099511627000 by
    obtain ⟨g0, g1, _⟩ := mayS_ok hm.out
    rw [inL_len (seq_in g1 hi.out).1]
    omega)
  have HO := Lib.hid (ho.low Im_pos)
  have HX := Lib.hid (hx.low Im_pos)
  have PI := Lib.hid (shindex_t w (.slice A sh.length c) sh i hs hm hi)
  clear hs ho hx
  have a0 := hbx.c0
  go_enter Tryz.func44, Tryz.ntmps44
  go_wp2_with fail
  with_reducible refine PI.out.mono ?_
  rintro e u ⟨P, n1, d1, rfl, ho1, F⟩
  have ho := (ho1.sl.fr (Fr.refl _ u).drew).any
  have D := fun R => (Fr.refl R u).drew
  have x1 := (hbo.keep F).fr (D (fun _ => True)) trivial
  have x2 := (hba.fr F hba.lt).fr (D (fun _ => True)) trivial
  have l1 := hbo.lt
  have l2 := hba.lt
  have s1 := F.size
  have KS : ∀ u', Fr (fun k => k < u.drew.heap.size) u.drew u' → u'.cell? ⟨bo, 0, none⟩ = some (.slice Q m2 k2) ∧ u'.cell? ⟨ba, 0, none⟩ = some (.slice C axes.length f) := fun u' h => ⟨(x1.fr h (show bo < u.heap.size by omega)).c0, (x2.fr h (show ba < u.heap.size by omega)).cell⟩
  have S0 := KS _ (Fr.refl _ _)
  clear ho1 D PI a0
  go_wp2_with fail
  refine wpTill.begin (fun u => u.cell? ⟨bo, 0, none⟩ = some (.slice Q m2 k2) ∧ u.cell? ⟨ba, 0, none⟩ = some (.slice C axes.length f)) 10 (by kernel_rfl) ?_
  change wpTill _ _ _ _ _ _ 11 _ _ _
  refine wpTill.take 0 (.pointer (some ⟨bo, 0, none⟩)) rfl (by kernel_rfl) (by kernel_rfl) (fun _ _ _ h => h) S0 (by rfl) (fun u hu => by go_simp) ?_
  try simp only [Act.put, List.setIfInBounds_toArray, List.set_cons_zero, List.set_cons_succ]
  refine wpTill.take 1 (.slice Q m2 k2) rfl (by kernel_rfl) (by kernel_rfl) (fun _ _ _ h => h) S0 (by rfl) (fun u hu => by go_simp) ?_
  try simp only [Act.put, List.setIfInBounds_toArray, List.set_cons_zero, List.set_cons_succ]
  refine wpTill.take 2 (.slice P n1 d1) rfl (by kernel_rfl) (by kernel_rfl) (fun _ _ _ h => h) S0 (by rfl) (fun u hu => by go_simp) ?_
  try simp only [Act.put, List.setIfInBounds_toArray, List.set_cons_zero, List.set_cons_succ]
  refine wpTill.take 3 (.slice C axes.length f) rfl (by kernel_rfl) (by kernel_rfl) (fun _ _ _ h => h) S0 (by rfl) (fun u hu => by go_simp) ?_
  try simp only [Act.put, List.setIfInBounds_toArray, List.set_cons_zero, List.set_cons_succ]
  refine wpTill.next 4 rfl (by kernel_rfl) (by rfl) (fun KC hKC => ?_)
  go_simp
  with_reducible refine (sdrop_t _ _ _ (seqI sh i) axes ho (HX.out.fr (fr_then F (Fr.refl (fun k => k < u.heap.size) u).drew)) HL.out).mono ?_
  rintro e u2 ⟨v2, rfl, ho2, hf2⟩
  obtain ⟨R, n2, d2, rfl⟩ := ho2.form
  have S0 := KS _ hf2
  refine hKC _ _ (fun _ => S0) ?_
  clear hKC KC
  try simp only [Act.put, List.setIfInBounds_toArray, List.set_cons_zero, List.set_cons_succ]
  refine wpTill.next 5 rfl (by kernel_rfl) (by rfl) (fun KC hKC => ?_)
  go_simp
  with_reducible refine (HOFF.out u2 _ _ ((HO.out.fr (fr_then F (Fr.refl (fun k => k < u.heap.size) u).drew)).fr (hf2.mono fun k _ hk => by have h1 := F.size; have h2 : u.drew.heap.size = u.heap.size := rfl; omega)) ho2.sl.any).mono ?_
  rintro e u3 ⟨rfl, hu⟩
  subst hu
  refine hKC _ _ (fun _ => S0) ?_
  clear hKC KC
  try simp only [Act.put, List.setIfInBounds_toArray, List.set_cons_zero, List.set_cons_succ]
  refine wpTill.take 6 (.tuple #[.int .i64 (plc sh axes i : Nat), .int .i64 0]) rfl (by kernel_rfl) (by kernel_rfl) (fun _ _ _ h => h) S0 (by rfl) (fun u hu => by go_simp) ?_
  try simp only [Act.put, List.setIfInBounds_toArray, List.set_cons_zero, List.set_cons_succ]
  refine wpTill.take 7 (.int .i64 (plc sh axes i : Nat)) rfl (by kernel_rfl) (by kernel_rfl) (fun _ _ _ h => h) S0 (by rfl) (fun u hu => by go_simp) ?_
  try simp only [Act.put, List.setIfInBounds_toArray, List.set_cons_zero, List.set_cons_succ]
  refine wpTill.take 8 (.int .i64 0) rfl (by kernel_rfl) (by kernel_rfl) (fun _ _ _ h => h) S0 (by rfl) (fun u hu => by go_simp) ?_
  try simp only [Act.put, List.setIfInBounds_toArray, List.set_cons_zero, List.set_cons_succ]
  refine wpTill.take 9 (.int .i64 (plc sh axes i : Nat)) rfl (by kernel_rfl) (by kernel_rfl) (fun _ _ _ h => h) S0 (by rfl) (fun u hu => by go_simp) ?_
  try simp only [Act.put, List.setIfInBounds_toArray, List.set_cons_zero, List.set_cons_succ]
  refine wpTill.next 10 rfl (by kernel_rfl) (by rfl) (fun KC hKC => ?_)
  go_simp
  refine hKC _ _ (no_wait (by kernel_rfl)) ?_
  clear hKC KC
  try simp only [Act.put, List.setIfInBounds_toArray, List.set_cons_zero, List.set_cons_succ]
  refine wpTill.done (by kernel_rfl) ?_
  go_wp2_with fail
  go_ret
  exact ⟨rfl, fr_then F (fr_then (Fr.refl (fun k => k < u.heap.size) u).drew hf2)⟩
end Go.Proofs.YtlppcfeimpcbjaaGreat


/- Equal, Own, same, known; lists in memory. -/
import Derived.Test.YtodpbkcdcchljaaNatG
namespace Go.Proofs.Ytodpbkcdcchljaa
open Go.RowKit

/-- Limbs that a text lays. -/
theorem sl_lit {w : World} {t : TypeId} {b : Nat} (xs : List Nat) (cells : List Value) (hc : cells = xs.map (fun x => .int .u32 (x : Int))) (hx : ∀ x ∈ xs, x < LB) (hl : xs.length ≤ 1099511627000) (hb : w.heap[b]? = some (.cells cells.toArray t)) :
    Sl Lm (fun k => k < w.heap.size) w (.slice (some ⟨b, 0, none⟩) xs.length xs.length) xs := by
  refine ⟨some ⟨b, 0, none⟩, xs.length, rfl, Nat.le_refl _, by omega, fun h => by simp at h, fun _ => ⟨_, rfl, lt_of_block hb, fun i x hxi => ?_⟩⟩
  refine ⟨[.int .u32 (x : Int)], ⟨rfl, hx x (List.mem_of_getElem? hxi)⟩, fun j u hj => ?_⟩
  have hj0 : j = 0 := by
    have := (List.getElem?_eq_some_iff.1 hj).1
    simp at this; exact this
  subst hj0
  simp at hj
  subst hj
  rw [addr_lit, cell_of_row w b _ _ t (0, 0) hb, hc]
  simp [hxi, Lm, Kd.nat]

theorem fr_then {n : Nat} {a b c : World} (h : Fr (fun k => k < n) a b) (hf : Fr (fun k => k < b.heap.size) b c) : Fr (fun k => k < n) a c :=
  h.comp hf fun _ hk hs => ⟨hs, Nat.lt_of_lt_of_le hk h.size⟩

theorem val_ne_at {xs ys : List Nat} (hx : ∀ d ∈ xs, d < LB) (hy : ∀ d ∈ ys, d < LB) {i : Nat} (h : xs.getD i 0 ≠ ys.getD i 0) : ¬ val xs = val ys := fun e => h (by
  rw [ofB_get LBpos hx i, ofB_get LBpos hy i]; exact congrArg (fun n => n / LB ^ i % LB) e)

set_option maxHeartbeats 1000000 in
theorem equal_calls {S T : Nat → Prop} (w : World) (va vb : Value) (xs ys : List Nat) (ha : Sl Lm S w va xs) (hb : Sl Lm T w vb ys) :
    Calls Try.prog 46 #[va, vb] w fun e w' => e = .returned (.bool (decide (val xs = val ys))) ∧ w' = w := by
  have hxd := Kd.nat_all ha
  have hyd := Kd.nat_all hb
  obtain ⟨A, c, rfl, _, _, hlx⟩ := ha.slice
  obtain ⟨A', c', rfl, _, _, hly⟩ := hb.slice
  obtain ⟨r, hr⟩ : ∃ r, r = decide (val xs = val ys) := ⟨_, rfl⟩
  rw [← hr]
  have HA := Lib.hid ha
  have HB := Lib.hid hb
  have HR := Lib.hid hr
  clear ha hb hr
  go_enter Try.func46, Try.ntmps46
  go_wp2
  go_loop [5] (fun i => ∃ j : Nat, j ≤ max xs.length ys.length ∧ i = .int .i64 j ∧ Hid (∀ k, k < j → xs.getD k 0 = ys.getD k 0)) (fun i => max xs.length ys.length - (intOf i).toNat)
  case atStart => exact ⟨0, Nat.zero_le _, rfl, fun k hk => by omega⟩
  case round =>
    obtain ⟨j, hj, rfl, hz⟩ := hrel
    have gx : ∀ (l : List Nat) (h : j < l.length), l.getD j 0 = l[j] := fun l h => by rw [List.getD_eq_getElem?_getD, List.getElem?_eq_getElem h]; rfl
    have g0 : ∀ (l : List Nat), l.length ≤ j → l.getD j 0 = 0 := fun l h => by rw [List.getD_eq_getElem?_getD, List.getElem?_eq_none h]; rfl
    have hgo : xs.getD j 0 = ys.getD j 0 → Hid (∀ k, k < j + 1 → xs.getD k 0 = ys.getD k 0) := fun e k hk => by
      rcases Nat.lt_succ_iff_lt_or_eq.1 hk with h | rfl
      · exact hz.out k h
      · exact e
    have hno : xs.getD j 0 ≠ ys.getD j 0 → r = false := fun e => HR.out.trans (decide_eq_false (val_ne_at hxd hyd e))
    by_cases h1 : j < xs.length <;> by_cases h2 : j < ys.length
    · obtain ⟨ad, rfl, hx, _⟩ := Kd.nat_cell HA.out (i := j) h1
      obtain ⟨ad', rfl, hy, _⟩ := Kd.nat_cell HB.out (i := j) h2
      have e1 := gx xs h1
      have e2 := gx ys h2
      rw [e1, e2] at hgo hno
      generalize xs[j] = X at hx hgo hno e1
      generalize ys[j] = Y at hy hgo hno e2
      have HE := Lib.hid (And.intro e1 e2)
      clear gx g0 e1 e2
      by_cases he : X = Y
      · subst he
        have HG := Lib.hid (hgo rfl)
        clear hgo hno
        go_wp2
        go_round
        case rel => exact ⟨j + 1, by omega, by go_num, HG.out⟩
        case measure => simp [intOf]; omega
      · have hb : ((X : Int) == (Y : Int)) = false := beq_eq_false_iff_ne.2 (by omega)
        have HN := Lib.hid (hno he)
        clear hgo hno he
        go_wp2
        go_ret
        exact ⟨congrArg (fun b : Bool => Ending.returned (.bool b)) HN.out.symm, rfl⟩
    · obtain ⟨ad, rfl, hx, _⟩ := Kd.nat_cell HA.out (i := j) h1
      have e1 := gx xs h1
      have e2 := g0 ys (by omega)
      rw [e1, e2] at hgo hno
      generalize xs[j] = X at hx hgo hno e1
      have HE := Lib.hid (And.intro e1 e2)
      clear gx g0 e1 e2
      by_cases he : X = 0
      · subst he
        have HG := Lib.hid (hgo rfl)
        clear hgo hno
        go_wp2
        go_round
        case rel => exact ⟨j + 1, by omega, by go_num, HG.out⟩
        case measure => simp [intOf]; omega
      · have hb : ((X : Int) == 0) = false := beq_eq_false_iff_ne.2 (by omega)
        have HN := Lib.hid (hno he)
        clear hgo hno he
        go_wp2
        go_ret
        exact ⟨congrArg (fun b : Bool => Ending.returned (.bool b)) HN.out.symm, rfl⟩
    · obtain ⟨ad', rfl, hy, _⟩ := Kd.nat_cell HB.out (i := j) h2
      have e1 := g0 xs (by omega)
      have e2 := gx ys h2
      rw [e1, e2] at hgo hno
      generalize ys[j] = Y at hy hgo hno e2
      have HE := Lib.hid (And.intro e1 e2)
      clear gx g0 e1 e2
      by_cases he : Y = 0
      · subst he
        have HG := Lib.hid (hgo rfl)
        clear hgo hno
        go_wp2
        go_round
        case rel => exact ⟨j + 1, by omega, by go_num, HG.out⟩
        case measure => simp [intOf]; omega
      · have hb : ((0 : Int) == (Y : Int)) = false := beq_eq_false_iff_ne.2 (by omega)
        have HN := Lib.hid (hno fun h => he h.symm)
        clear hgo hno he
        go_wp2
        go_ret
        exact ⟨congrArg (fun b : Bool => Ending.returned (.bool b)) HN.out.symm, rfl⟩
    · have HN : r = true := HR.out.trans (decide_eq_true (val_same fun k hk => hz.out k (by omega)))
      clear gx g0 hgo hno
      go_wp2
      go_ret
      exact ⟨rfl, rfl⟩

theorem own_calls {S : Nat → Prop} (w : World) (v : Value) (xs : List Nat) (h : Sl Lm S w v xs) (hl : xs.length ≤ 1099511627000) :
    Calls Try.prog 20 #[v] w fun e w' => ∃ v, e = .returned v ∧ Own Lm 62 (fun k => w.heap.size ≤ k) w' v xs ∧ Fr (fun k => k < w.heap.size) w w' := by
  have hl1 : (([] : List Nat).length + xs.length) * 4 ≤ 140737488355328 := by simp; omega
  have hl2 : ([] : List Nat).length + xs.length ≤ 9223372036854775807 := by simp; omega
  have HN := Lib.hid (And.intro hl1 hl2)
  have H := Lib.hid (h.up Lm_pos (Nat.le_refl _) (Fr.refl _ _))
  clear hl1 hl2 h
  go_enter Try.func20, Try.ntmps20
  go_wp2_with (at_builtin; refine wpList_push (v := .slice none 0 0) lmT rfl rfl rfl rfl (Own.nil Lm 62 (fun k => w.heap.size ≤ k) w) H.out (fun y cs h => Kd.nat_any (S := fun k => k < w.heap.size) h) (fun k hk => hk) HN.out.1 HN.out.2 ?_; intro v' w1 hown hfr hat)
  go_ret
  exact ⟨_, rfl, hown, hfr.mono fun k _ hk => by simp [Value.ownBlock]⟩

theorem same_iff {xs ys : List Nat} (hx : ∀ d ∈ xs, d < LB) (hy : ∀ d ∈ ys, d < LB) (hl : xs.length = ys.length) (he : val xs = val ys) : xs = ys := by
  refine List.ext_getElem hl fun i h1 h2 => ?_
  have := (ofB_get LBpos hx i).trans ((congrArg (fun n => n / LB ^ i % LB) he).trans (ofB_get LBpos hy i).symm)
  rwa [List.getD_eq_getElem?_getD, List.getD_eq_getElem?_getD, List.getElem?_eq_getElem h1, List.getElem?_eq_getElem h2] at this

end Go.Proofs.Ytodpbkcdcchljaa

import Derived.Test.YtlknmoegngjpcaaGreatTenB
set_option linter.unusedSimpArgs false
set_option linter.unusedVariables false

/- Shapes: are two the same; a copy. Tensors in memory. -/
namespace Go.Proofs.YtlknmoegngjpcaaGreat
open Go.RowKit

theorem ne_at {a b : List Int} (j : Nat) (h1 : j < a.length) (h2 : j < b.length) (h : a[j] ≠ b[j]) : a ≠ b := by
  rintro rfl
  exact h rfl
theorem eq_of_all {a b : List Int} (hl : a.length = b.length) (h : ∀ (k : Nat) (h1 : k < a.length) (h2 : k < b.length), a[k] = b[k]) : a = b := List.ext_getElem hl h
theorem eq_step {a b : List Int} {j : Nat} (h : ∀ (k : Nat) (h1 : k < a.length) (h2 : k < b.length), k < j → a[k] = b[k]) (g : ∀ (h1 : j < a.length) (h2 : j < b.length), a[j] = b[j]) : ∀ (k : Nat) (h1 : k < a.length) (h2 : k < b.length), k < j + 1 → a[k] = b[k] := by
  intro k h1 h2 hk
  rcases Nat.lt_succ_iff_lt_or_eq.1 hk with hk | rfl
  · exact h k h1 h2 hk
  · exact g h1 h2

set_option maxHeartbeats 2000000 in
theorem sameshape_calls {S T : Nat → Prop} (w : World) (va vb : Value) (a b : List Int) (ha : Sl Im S w va a) (hb : Sl Im T w vb b) :
    Calls Tryz.prog 68 #[va, vb] w fun e w' => e = .returned (.bool (decide (a = b))) ∧ Fr (fun _ => True) w w' := by
  obtain ⟨A, c, rfl, _, _, hlx⟩ := ha.slice
  obtain ⟨A', c', rfl, _, _, hly⟩ := hb.slice
  obtain ⟨r, hr⟩ : ∃ r, r = decide (a = b) := ⟨_, rfl⟩
  rw [← hr]
  have HA := Lib.hid ha.any
  have HB := Lib.hid hb.any
  have HR := Lib.hid hr
  clear ha hb hr
  go_enter Tryz.func68, Tryz.ntmps68
  by_cases hl : a.length = b.length
  · have hli : ((a.length : Int) == (b.length : Int)) = true := by simp [hl]
    go_wp2_with fail
    go_loopw [5] (fun i wr => ∃ (n : Nat), i = .int .i64 n ∧ n ≤ a.length ∧ Hid (∀ (k : Nat) (h1 : k < a.length) (h2 : k < b.length), k < n → a[k] = b[k]) ∧ Fr (fun _ => True) w wr) (fun i _ => a.length - (intOf i).toNat)
    case atStart => exact ⟨0, rfl, by omega, Lib.hid (fun k _ _ hk => by omega), Fr.refl _ _⟩
    case round =>
      obtain ⟨n, rfl, hn, HE, G⟩ := hrel
      by_cases hlt : n < a.length
      · have hlt2 : n < b.length := by omega
        replace G := G.drew
        obtain ⟨ad, rfl, hx, _⟩ := Kd.int_cell (HA.out.fr G) (i := n) hlt
        obtain ⟨ad', rfl, hy, _⟩ := Kd.int_cell (HB.out.fr G) (i := n) hlt2
        have hst := eq_step HE.out
        have hno := ne_at n hlt hlt2
        generalize hX : a[n] = X at hx hno
        generalize hY : b[n] = Y at hy hno
        by_cases he : X = Y
        · subst he
          have HN := Lib.hid (hst fun _ _ => hX.trans hY.symm)
          clear hst hno hX hY HE
          go_wp2_with fail
          go_region
          all_goals
            go_wp2_with fail
            go_roundw
            case rel => exact ⟨n + 1, by go_num, by omega, HN, G⟩
            case measure => first | (simp [intOf]; done) | (simp [intOf]; omega)
        · have HN : r = false := HR.out.trans (decide_eq_false (hno he))
          clear hst hno hX hY HE
          go_wp2_with fail
          go_region
          all_goals
            go_wp2_with fail
            go_ret
            exact ⟨by first | rfl | exact congrArg (fun b : Bool => Ending.returned (.bool b)) HN.symm, G⟩
      · have HN : r = true := HR.out.trans (decide_eq_true (eq_of_all hl fun k h1 h2 => HE.out k h1 h2 (by omega)))
        go_wp2_with fail
        go_ret
        exact ⟨by first | rfl | exact congrArg (fun b : Bool => Ending.returned (.bool b)) HN.symm, G⟩
  · have hli : ((a.length : Int) == (b.length : Int)) = false := by rw [beq_eq_false_iff_ne]; omega
    have HN : r = false := HR.out.trans (decide_eq_false (by rintro rfl; exact hl rfl))
    go_wp2_with fail
    go_ret
    exact ⟨by first | rfl | exact congrArg (fun b : Bool => Ending.returned (.bool b)) HN.symm, Fr.refl _ _⟩

set_option maxHeartbeats 2000000 in
theorem slequal_calls {S T : Nat → Prop} (w : World) (va vb : Value) (a b : List Int) (ha : Sl Im S w va a) (hb : Sl Im T w vb b) :
    Calls Tryz.prog 80 #[va, vb] w fun e w' => e = .returned (.bool (decide (a = b))) ∧ Fr (fun _ => True) w w' := by
  obtain ⟨A, c, rfl, _, _, hlx⟩ := ha.slice
  obtain ⟨A', c', rfl, _, _, hly⟩ := hb.slice
  obtain ⟨r, hr⟩ : ∃ r, r = decide (a = b) := ⟨_, rfl⟩
  rw [← hr]
  have HA := Lib.hid ha.any
  have HB := Lib.hid hb.any
  have HR := Lib.hid hr
  clear ha hb hr
  go_enter Tryz.func80, Tryz.ntmps80
  by_cases hl : a.length = b.length
  · have hli : ((a.length : Int) == (b.length : Int)) = true := by simp [hl]
    go_wp2_with fail
    go_loopw [13] (fun i wr => ∃ (n : Nat), i = .int .i64 n ∧ n ≤ a.length ∧ Hid (∀ (k : Nat) (h1 : k < a.length) (h2 : k < b.length), k < n → a[k] = b[k]) ∧ Fr (fun _ => True) w wr) (fun i _ => a.length - (intOf i).toNat)
    case atStart => exact ⟨0, rfl, by omega, Lib.hid (fun k _ _ hk => by omega), Fr.refl _ _⟩
    case round =>
      obtain ⟨n, rfl, hn, HE, G⟩ := hrel
      by_cases hlt : n < a.length
      · have hlt2 : n < b.length := by omega
        replace G := G.drew
        obtain ⟨ad, rfl, hx, _⟩ := Kd.int_cell (HA.out.fr G) (i := n) hlt
        obtain ⟨ad', rfl, hy, _⟩ := Kd.int_cell (HB.out.fr G) (i := n) hlt2
        have hst := eq_step HE.out
        have hno := ne_at n hlt hlt2
        generalize hX : a[n] = X at hx hno
        generalize hY : b[n] = Y at hy hno
        by_cases he : X = Y
        · subst he
          have HN := Lib.hid (hst fun _ _ => hX.trans hY.symm)
          clear hst hno hX hY HE
          go_wp2_with fail
          go_region
          all_goals
            go_wp2_with fail
            go_roundw
            case rel => exact ⟨n + 1, by go_num, by omega, HN, G⟩
            case measure => first | (simp [intOf]; done) | (simp [intOf]; omega)
        · have HN : r = false := HR.out.trans (decide_eq_false (hno he))
          clear hst hno hX hY HE
          go_wp2_with fail
          go_region
          all_goals
            go_wp2_with fail
            go_ret
            exact ⟨by first | rfl | exact congrArg (fun b : Bool => Ending.returned (.bool b)) HN.symm, G⟩
      · have HN : r = true := HR.out.trans (decide_eq_true (eq_of_all hl fun k h1 h2 => HE.out k h1 h2 (by omega)))
        go_wp2_with fail
        go_ret
        exact ⟨by first | rfl | exact congrArg (fun b : Bool => Ending.returned (.bool b)) HN.symm, G⟩
  · have hli : ((a.length : Int) == (b.length : Int)) = false := by rw [beq_eq_false_iff_ne]; omega
    have HN : r = false := HR.out.trans (decide_eq_false (by rintro rfl; exact hl rfl))
    go_wp2_with fail
    go_ret
    exact ⟨by first | rfl | exact congrArg (fun b : Bool => Ending.returned (.bool b)) HN.symm, Fr.refl _ _⟩

theorem eqlNilS (W : World) (a : Option Addr) (n c : Nat) : (binOp .eql 23 (.slice a n c) (.slice none 0 0)).run Tryz.prog W = .ok (.bool a.isNone) W :=
  Lib.run_eql_slice_nil W 23 3 a n c 0 0 Tryz.underlying23

set_option maxHeartbeats 400000 in
theorem sclone_calls {S : Nat → Prop} (w : World) (v : Value) (xs : List Int) (h : Sl Im S w v xs) (hl : xs.length ≤ 1099511627000) :
    Calls Tryz.prog 90 #[v] w fun e w' => ∃ v, e = .returned v ∧ Own Im 3 (fun k => w.heap.size ≤ k) w' v xs ∧ Fr (fun k => k < w.heap.size) w w' := by
  obtain ⟨A, c, rfl, hcap, _, hlx⟩ := h.slice
  have he := eqlNilS
  cases A with
  | none =>
    obtain rfl : xs = [] := by
      obtain ⟨A', c', hv, _, _, _, h4⟩ := h
      cases xs with
      | nil => rfl
      | cons x xs => cases hv; obtain ⟨ad, h, _⟩ := h4 (by simp); cases h
    go_enter Tryz.func90, Tryz.ntmps90
    go_wp2_with fail
    go_ret
    exact ⟨_, rfl, Own.nil _ _ _ _, Fr.refl _ _⟩
  | some ad =>
    have hf := fun R => (Fr.refl R w).alloc (.cells #[] 3)
    have hsl := h.up Im_pos (Nat.le_refl _) (hf _)
    have H := Lib.hid hsl
    clear h hsl
    go_enter Tryz.func90, Tryz.ntmps90
    have hn1 : ∀ k, (w.alloc (.cells #[] 3)).heap.size ≤ k → w.heap.size ≤ k := fun k hk => by simp at hk; omega
    have hl1 : (([] : List Int).length + xs.length) * 8 ≤ 140737488355328 := by simp; omega
    have hl2 : ([] : List Int).length + xs.length ≤ 9223372036854775807 := by simp; omega
    have HN := Lib.hid (And.intro hn1 (And.intro hl1 hl2))
    clear hn1 hl1 hl2
    go_wp2_with (at_builtin; refine wpList_push (v := .slice (some ⟨w.heap.size, 0, none⟩) 0 0) imT rfl rfl rfl rfl (Own.empty Im 3 (S := fun k => w.heap.size ≤ k) w (Nat.le_refl _)) H.out (fun y cs h => Kd.int_any (S := fun k => k < w.heap.size) h) HN.out.1 HN.out.2.1 HN.out.2.2 ?_; intro v' w1 hown hfr hat)
    go_ret
    exact ⟨_, rfl, hown, (hf _).comp hfr fun k hk _ => ⟨hk, by simp [Value.ownBlock]; omega⟩⟩
end Go.Proofs.YtlknmoegngjpcaaGreat

import Derived.Test.YtlppcfeimpcbjaaGreatFoldF
import Derived.Test.YtlppcfeimpcbjaaGreatPuI
set_option linter.unusedSimpArgs false
set_option linter.unusedVariables false

/- law10's short and matrix: printed by gen_fpa.py. -/
namespace Go.Proofs.YtlppcfeimpcbjaaGreat
open Go.RowKit Go.Shelf
attribute [local go_sem] Oper.semAt_some

/-- is a list of elements short? -/
def shortB (es : List RatL) : Bool := decide (0 < es.length ∧ es.length ≤ 40 ∧ ∀ x ∈ es, x.2.1.length ≤ 3 ∧ x.2.2.length ≤ 3)

set_option maxHeartbeats 4000000 in
theorem short_t {T : Nat → Prop} (w : World) (ve : Value) (es : List RatL) (b : Bool) (hb : Hid (shortB es = b)) (he : Sl Rm T w ve es) :
    Calls Tryz.prog 36 #[ve] w fun e w' => e = .returned (.bool b) ∧ Fr (fun k => k < w.heap.size) w w' := by
  obtain ⟨A', c', rfl, _, _, hly⟩ := he.slice
  have HE := Lib.hid (he.low Rm_pos)
  clear he
  go_enter Tryz.func36, Tryz.ntmps36
  go_wp2_with fail
  go_loopw [3] (fun k W => ∃ (j : Nat), k = .int .i64 j ∧ j ≤ es.length ∧ Hid (∀ i (hi : i < es.length), i < j → es[i].2.1.length ≤ 3 ∧ es[i].2.2.length ≤ 3) ∧ Fr (fun k => k < w.heap.size) w W) (fun k _ => es.length - (intOf k).toNat)
  case atStart => exact ⟨0, rfl, by omega, Lib.hid (fun i hi h => by omega), Fr.refl _ _⟩
  case round =>
    obtain ⟨j, rfl, hj, HP, F⟩ := hrel
    by_cases hlt : j < es.length
    · obtain ⟨ad, P, m, d, Q, k, o, rfl, hS, g0, g1, g2, r1, r2⟩ := Rm_get (HE.out.fr F) hlt
      obtain ⟨l1, hl1⟩ : ∃ l, es[j].2.1.length = l := ⟨_, rfl⟩
      obtain ⟨l2, hl2⟩ : ∃ l, es[j].2.2.length = l := ⟨_, rfl⟩
      obtain ⟨P1, y1, e1, _, _, _⟩ := r1.slice
      obtain ⟨Q1, y2, e2, _, _, _⟩ := r2.slice
      cases e1
      cases e2
      rw [hl1] at g1
      rw [hl2] at g2
      have H1 := Lib.hid hl1
      have H2 := Lib.hid hl2
      clear hl1 hl2 r1 r2
      by_cases h1 : 3 < l1
      · have hb0 : b = false := by rw [← hb.out]; exact decide_eq_false fun h => by have := (h.2.2 _ (List.getElem_mem hlt)).1; rw [H1.out] at this; omega
        clear hb
        subst hb0
        go_wp2_with fail
        go_ret
        exact ⟨rfl, F⟩
      · by_cases h2 : 3 < l2
        · have hb0 : b = false := by rw [← hb.out]; exact decide_eq_false fun h => by have := (h.2.2 _ (List.getElem_mem hlt)).2; rw [H2.out] at this; omega
          clear hb
          subst hb0
          go_wp2_with fail
          go_ret
          exact ⟨rfl, F⟩
        · have HP' := Lib.hid (show ∀ i (hi : i < es.length), i < j + 1 → es[i].2.1.length ≤ 3 ∧ es[i].2.2.length ≤ 3 from fun i hi h => by
            by_cases hij : i = j
            · subst hij
              rw [H1.out, H2.out]
              omega
            · exact HP.out i hi (by omega))
          go_wp2_with fail
          go_roundw
          case rel => exact ⟨j + 1, by go_num, by omega, HP', F⟩
          case measure => first | (simp [intOf]; done) | (simp [intOf]; omega)
    · obtain rfl : j = es.length := by omega
      have hall : ∀ x ∈ es, x.2.1.length ≤ 3 ∧ x.2.2.length ≤ 3 := fun x hx => by
        obtain ⟨i, hi, rfl⟩ := List.mem_iff_getElem.1 hx
        exact HP.out i hi hi
      have HA := Lib.hid hall
      clear hall
      by_cases h0 : 0 < es.length
      · by_cases h40 : es.length ≤ 40
        · have hb0 : b = true := by rw [← hb.out]; exact decide_eq_true ⟨h0, h40, HA.out⟩
          clear hb
          subst hb0
          have hd : decide ((es.length : Int) ≤ 40) = true := decide_eq_true (by omega)
          go_wp2_with fail
          go_ret
          refine ⟨?_, F⟩
          first | rfl | (show Ending.returned (.bool (decide ((es.length : Int) ≤ 40))) = _; rw [hd])
        · have hb0 : b = false := by rw [← hb.out]; exact decide_eq_false fun h => h40 h.2.1
          clear hb
          subst hb0
          have hd : decide ((es.length : Int) ≤ 40) = false := decide_eq_false (by omega)
          go_wp2_with fail
          go_ret
          refine ⟨?_, F⟩
          first | rfl | (show Ending.returned (.bool (decide ((es.length : Int) ≤ 40))) = _; rw [hd])
      · have hb0 : b = false := by rw [← hb.out]; exact decide_eq_false fun h => h0 h.1
        clear hb
        subst hb0
        go_wp2_with fail
        go_ret
        exact ⟨rfl, F⟩

theorem rot_lens {l : List RatL} (h : ∀ x ∈ l, (∀ d ∈ x.2.1, d < LB) ∧ ∀ d ∈ x.2.2, d < LB) (h3 : ∀ x ∈ l, x.2.1.length ≤ 3 ∧ x.2.2.length ≤ 3) (h0 : 0 < l.length) (j : Nat) : LensL 3 (rot l j) := fun q hq => by
  obtain ⟨i, _, rfl⟩ := List.mem_map.1 hq
  have hi := Nat.mod_lt i h0
  rw [List.getD_eq_getElem?_getD, List.getElem?_eq_getElem hi]
  have hm := List.getElem_mem hi
  exact qOf_len (h _ hm) (h3 _ hm).1 (h3 _ hm).2 (by decide)

set_option maxRecDepth 20000 in
set_option maxHeartbeats 16000000 in
theorem matrix_t {T : Nat → Prop} (w : World) (ve : Value) (el : List RatL) (m n : Nat) (hm : m ≤ 5) (hn : n ≤ 5) (hs : Hid (shortB el = true)) (he : Sl Rm T w ve el) :
    Calls Tryz.prog 37 #[.int .i64 (m : Int), .int .i64 (n : Int), ve] w fun e w' => ∃ A i j B k l, e = .returned (.agg #[.slice A i j, .slice B k l]) ∧ Own Im 3 (fun k => w.heap.size ≤ k) w' (.slice A i j) [(m : Int), (n : Int)] ∧ Own Rm 54 (fun k => w.heap.size ≤ k) w' (.slice B k l) ((rot el (m * n)).map canR) ∧ Fr (fun k => k < w.heap.size) w w' := by
  obtain ⟨B, d, rfl, _, _, lB⟩ := he.slice
  have HLl := Lib.hid (he.low Rm_pos)
  have HT1 := Lib.hid (Rm_lt he)
  obtain ⟨hn0, hn40, hx3⟩ := of_decide_eq_true hs.out
  have HX := Lib.hid hx3
  clear he hx3
  generalize hn1 : el.length = n1 at *
  have HN1 := Lib.hid hn1
  clear hn1
  obtain ⟨q, hq⟩ : ∃ q, m * n = q := ⟨_, rfl⟩
  have hq25 : q ≤ 25 := by rw [← hq]; exact Nat.mul_le_mul hm hn
  have hw : IntKind.i64.wrap ((m : Int) * (n : Int)) = (q : Int) := by rw [← Int.natCast_mul, hq, IntKind.wrap_i64]; omega
  rw [hq]
  have HW := Lib.hid hw
  clear hq hw
  have z1 : ((n1 : Int) == 0) = false := beq_eq_false_iff_ne.2 (by omega)
  have x6 := ((Box2.new w 26 (.slice none 0 0) (.slice none 0 0)).alloc (.cells #[.int .i64 (m : Int), .int .i64 (n : Int)] 3)).alloc (.cells #[.slice (some ⟨w.heap.size + 1, 0, none⟩) 2 2, .slice none 0 0] 26)
  have oS := (Own.ints (e := 3) (S := fun k => k = w.heap.size + 1) (w.alloc (.cells #[.slice none 0 0, .slice none 0 0] 26)) [(m : Int), (n : Int)] #[.int .i64 (m : Int), .int .i64 (n : Int)] rfl (by intro x hx; rcases List.mem_cons.1 hx with rfl | hx; omega; rw [List.mem_singleton] at hx; omega) (by simp) (by rw [World.size_alloc])).keep' ((Fr.refl (fun k => k < ((w.alloc (.cells #[.slice none 0 0, .slice none 0 0] 26)).alloc (.cells #[.int .i64 (m : Int), .int .i64 (n : Int)] 3)).heap.size) _).alloc (.cells #[.slice (some ⟨w.heap.size + 1, 0, none⟩) 2 2, .slice none 0 0] 26))
  have x7 := Box2.new ((w.alloc (.cells #[.slice none 0 0, .slice none 0 0] 26)).alloc (.cells #[.int .i64 (m : Int), .int .i64 (n : Int)] 3)) 26 (.slice (some ⟨w.heap.size + 1, 0, none⟩) 2 2) (.slice none 0 0)
  have F := (((Fr.refl (fun k => k < w.heap.size) w).alloc (.cells #[.slice none 0 0, .slice none 0 0] 26)).alloc (.cells #[.int .i64 (m : Int), .int .i64 (n : Int)] 3)).alloc (.cells #[.slice (some ⟨w.heap.size + 1, 0, none⟩) 2 2, .slice none 0 0] 26)
  simp only [World.size_alloc] at x7 oS
  have hw := HW.out
  go_enter Tryz.func37, Tryz.ntmps37
  go_wp2_with fail
  clear hw
  generalize (((w.alloc (.cells #[.slice none 0 0, .slice none 0 0] 26)).alloc (.cells #[.int .i64 (m : Int), .int .i64 (n : Int)] 3)).alloc (.cells #[.slice (some ⟨w.heap.size + 1, 0, none⟩) 2 2, .slice none 0 0] 26)) = V at x6 x7 oS F ⊢
  obtain ⟨b7, hb7⟩ : ∃ b, w.heap.size + 1 + 1 = b := ⟨_, rfl⟩
  have hb72 : b7 = w.heap.size + 2 := hb7.symm
  simp only [hb7, ← hb72] at x7 ⊢
  have hbl : w.heap.size + 2 ≤ b7 := Nat.le_of_eq hb72.symm
  clear hb7 hb72
  have lV := x7.lt
  go_loopw [8] (fun k W => ∃ (j : Nat) (v1 : Value), k = .int .i64 j ∧ j ≤ q ∧ Box2 W b7 26 (.slice (some ⟨w.heap.size + 1, 0, none⟩) 2 2) v1 ∧ Own Rm 54 (fun k => V.heap.size ≤ k) W v1 ((rot el j).map canR) ∧ Fr (fun k => k < V.heap.size ∧ k ≠ b7) V W) (fun k _ => q - (intOf k).toNat)
  case atStart => exact ⟨0, _, rfl, by omega, x7, Own.nil _ _ _ _, Fr.refl _ _⟩
  case round =>
    clear x7
    obtain ⟨j, v1, rfl, hj, x7, o1, GV⟩ := hrel
    obtain ⟨A3, i3, j3, rfl⟩ := o1.form
    have szW := GV.size
    have hw := HW.out
    by_cases hlt : j < q
    case neg =>
      obtain rfl : j = q := by omega
      have y6 := x6.fr GV ⟨by omega, by omega⟩
      have oS9 := oS.past GV fun k hk => ⟨by omega, by omega⟩
      have c0 := x7.c0
      have c1 := x7.c1
      go_wp2_with ((with_reducible apply wpList_st2); rfl; rfl; exact y6; exact ten2; rfl; rfl; intro w9 B9 F9)
      refine bodyPost_ret (results_cell2 rfl rfl B9 Tryz.underlying26 ten2) rfl ?_
      exact ⟨_, _, _, _, _, _, rfl, (oS9.past F9 fun k hk => by omega).mono fun k hk => by omega, (o1.past F9 fun k hk => by omega).mono fun k hk => by omega, (F.comp GV (R := fun k => k < w.heap.size) fun k _ hk => ⟨hk, by omega, by omega⟩).comp F9 fun k _ hk => ⟨hk, by omega⟩⟩
    case pos =>
      have hm1 : j % el.length < el.length := Nat.mod_lt _ (by rw [HN1.out]; exact hn0)
      have HS1 := Lib.hid (rot_step el j hm1)
      have tx := HT1.out _ (List.getElem_mem hm1)
      have hx3 := HX.out _ (List.getElem_mem hm1)
      have LW : Sl Rm (fun k => k < w.heap.size) wr.drew (.slice B el.length d) el := by
        rw [HN1.out]
        exact ((HLl.out.fr F).fr (GV.mono fun k _ hk => ⟨by omega, by omega⟩)).fr ((Fr.refl _ _).drew)
      obtain ⟨ad, P, l1, d1, Q, l2, d2, rfl, hS, g0, g1, g2, r1, r2⟩ := Rm_get LW hm1
      have hr1 : (j : Int).tmod (n1 : Int) = ((j % el.length : Nat) : Int) := by rw [HN1.out]; exact (Int.ofNat_tmod j n1).symm
      generalize el[j % el.length] = x at g0 r1 r2 tx HS1 hx3
      generalize j % el.length = m1 at hm1 hr1 g0 g1 g2
      rw [HN1.out] at hm1
      have HL3 := Lib.hid (show Lens 3 (qOf x) from qOf_len tx hx3.1 hx3.2 (by decide))
      have HX3 := Lib.hid hx3
      have HLD := Lib.hid (LV.hold ⟨r1.any, r2.any⟩)
      clear hS r1 r2 tx hx3 LW
      have lt3 := o1.lt
      have in3 := o1.in_
      have l7 := x7.lt
      have DD := fun R => (Fr.refl R wr).drew
      have y7d := x7.keep (DD _)
      have oUd := o1.keep' (DD _)
      have hUd : wr.drew.heap.size = wr.heap.size := rfl
      have hadl : ad.block < w.heap.size + 1 → True := fun _ => trivial
      have e0b := World.block_lt_of_cell? _ _ g0
      have hadb : ad.block < V.heap.size := by
        have hh := HLl.out
        rw [show Value.slice (some ad) n1 d = Value.slice (some ad) el.length d by rw [HN1.out]] at hh
        obtain ⟨ad2, _, _, _, _, _, _, hA2, hS2, _⟩ := Rm_get hh (i := 0) (by rw [HN1.out]; exact hn0)
        cases hA2
        have := F.size
        omega
      have KS : ∀ v, Fr (fun κ => κ < wr.drew.heap.size ∧ some κ ≠ (Value.slice A3 i3 j3).ownBlock) wr.drew v → v.cell? ⟨b7, 1, none⟩ = some (.slice A3 i3 j3) ∧ v.cell? (ad.add (m1 * 3)) = some (.bool x.1) ∧ v.cell? ⟨(ad.add (m1 * 3)).block, (ad.add (m1 * 3)).off + 1, none⟩ = some (.slice P l1 d1) ∧ v.cell? ⟨(ad.add (m1 * 3)).block, (ad.add (m1 * 3)).off + 2, none⟩ = some (.slice Q l2 d2) := fun v h => by
        have n7 : b7 < wr.drew.heap.size ∧ some b7 ≠ (Value.slice A3 i3 j3).ownBlock := ⟨by omega, fun e => by have := in3 _ e.symm; omega⟩
        have n9 : ∀ a : Addr, a.block = ad.block → a.block < wr.drew.heap.size ∧ some a.block ≠ (Value.slice A3 i3 j3).ownBlock := fun a ha => ⟨by omega, fun e => by have := in3 _ e.symm; omega⟩
        have hab : (ad.add (m1 * 3)).block = ad.block := addr_block _ _
        exact ⟨(y7d.fr h n7).c1, h.cell g0 (n9 _ hab), h.cell g1 (n9 _ hab), h.cell g2 (n9 _ hab)⟩
      have S0 := KS _ (Fr.refl _ _)
      clear e0b hadl g0 g1 g2
      go_wp2_with fail
      refine wpTill.begin (fun v => v.cell? ⟨b7, 1, none⟩ = some (.slice A3 i3 j3) ∧ v.cell? (ad.add (m1 * 3)) = some (.bool x.1) ∧ v.cell? ⟨(ad.add (m1 * 3)).block, (ad.add (m1 * 3)).off + 1, none⟩ = some (.slice P l1 d1) ∧ v.cell? ⟨(ad.add (m1 * 3)).block, (ad.add (m1 * 3)).off + 2, none⟩ = some (.slice Q l2 d2)) 14 (by kernel_rfl) ?_
      change wpTill _ _ _ _ _ _ 15 _ _ _
      refine wpTill.take 0 (.pointer (some ⟨b7, 1, none⟩)) rfl (by kernel_rfl) (by kernel_rfl) (fun _ _ _ h => h) S0 (by rfl) (fun u hu => by go_simp) ?_
      try simp only [Act.put, List.setIfInBounds_toArray, List.set_cons_zero, List.set_cons_succ]
      refine wpTill.take 1 (.slice A3 i3 j3) rfl (by kernel_rfl) (by kernel_rfl) (fun _ _ _ h => h) S0 (by rfl) (fun u hu => by go_simp) ?_
      try simp only [Act.put, List.setIfInBounds_toArray, List.set_cons_zero, List.set_cons_succ]
      refine wpTill.take 2 (.slice (some ad) n1 d) rfl (by kernel_rfl) (by kernel_rfl) (fun _ _ _ h => h) S0 (by rfl) (fun u hu => by go_simp) ?_
      try simp only [Act.put, List.setIfInBounds_toArray, List.set_cons_zero, List.set_cons_succ]
      refine wpTill.take 3 (.int .i64 (j : Int)) rfl (by kernel_rfl) (by kernel_rfl) (fun _ _ _ h => h) S0 (by rfl) (fun u hu => by go_simp) ?_
      try simp only [Act.put, List.setIfInBounds_toArray, List.set_cons_zero, List.set_cons_succ]
      refine wpTill.take 4 (.slice (some ad) n1 d) rfl (by kernel_rfl) (by kernel_rfl) (fun _ _ _ h => h) S0 (by rfl) (fun u hu => by go_simp) ?_
      try simp only [Act.put, List.setIfInBounds_toArray, List.set_cons_zero, List.set_cons_succ]
      refine wpTill.take 5 (.int .i64 (n1 : Int)) rfl (by kernel_rfl) (by kernel_rfl) (fun _ _ _ h => h) S0 (by rfl) (fun u hu => by go_simp) ?_
      try simp only [Act.put, List.setIfInBounds_toArray, List.set_cons_zero, List.set_cons_succ]
      refine wpTill.take 6 (.int .i64 (m1 : Int)) rfl (by kernel_rfl) (by kernel_rfl) (fun _ _ _ h => h) S0 (by rfl) (fun u hu => by go_simp <;> omega) ?_
      try simp only [Act.put, List.setIfInBounds_toArray, List.set_cons_zero, List.set_cons_succ]
      refine wpTill.take 7 (.pointer (some (ad.add (m1 * 3)))) rfl (by kernel_rfl) (by kernel_rfl) (fun _ _ _ h => h) S0 (by rfl) (fun u hu => by go_simp) ?_
      try simp only [Act.put, List.setIfInBounds_toArray, List.set_cons_zero, List.set_cons_succ]
      refine wpTill.take 8 (.agg #[.bool x.1, .slice P l1 d1, .slice Q l2 d2]) rfl (by kernel_rfl) (by kernel_rfl) (fun _ _ _ h => h) S0 (by rfl) (fun u hu => by go_simp) ?_
      try simp only [Act.put, List.setIfInBounds_toArray, List.set_cons_zero, List.set_cons_succ]
      refine wpTill.next 9 rfl (by kernel_rfl) (by rfl) (fun KC hKC => ?_)
      go_simp
      with_reducible refine (rof_u (x := x) HLD.out.now HX3 (by decide) (by decide)).mono ?_
      rintro e u1 ⟨v, rfl, hf1, HQ1⟩
      obtain ⟨A5, i5, j5, B5, k5, m5, rfl, -⟩ := HQ1.now
      refine hKC _ _ (fun _ => KS _ (hf1.mono fun κ _ hκ => hκ.1)) ?_
      clear hKC KC
      try simp only [Act.put, List.setIfInBounds_toArray, List.set_cons_zero, List.set_cons_succ]
      refine wpTill.next 10 rfl (by kernel_rfl) (by rfl) (fun KC hKC => ?_)
      go_simp
      with_reducible refine (rback_u HQ1.now rfl hf1.size (by decide) (HL3.out.wide (by decide))).mono ?_
      rintro e u2 ⟨v, rfl, hf2, HQ2⟩
      obtain ⟨A6, i6, j6, B6, k6, m6, rfl, -⟩ := HQ2.now
      have G2 := hf1.trans (hf2.mono fun κ hk hκ => by have := hf1.size; omega)
      refine hKC _ _ (fun _ => KS _ (G2.mono fun κ _ hκ => hκ.1)) ?_
      clear hKC KC
      try simp only [Act.put, List.setIfInBounds_toArray, List.set_cons_zero, List.set_cons_succ]
      have one := one_e HQ2.now.out G2.size
      have al5 := fun R => (Fr.refl R u2).alloc (.cells #[.bool (sg (qOf x)), .slice A6 i6 j6, .slice B6 k6 m6] 54)
      have G5 := fr_then G2 (al5 _)
      refine wpTill.next 11 rfl (by kernel_rfl) (by rfl) (fun KC hKC => ?_)
      go_simp
      refine hKC _ _ (fun _ => KS _ (G5.mono fun κ _ hκ => hκ.1)) ?_
      clear hKC KC
      try simp only [Act.put, List.setIfInBounds_toArray, List.set_cons_zero, List.set_cons_succ]
      obtain ⟨b5, e5, sl5⟩ := one.now
      cases e5
      have y75 := y7d.keep G5
      have oU5 := oUd.keep' G5
      have s5 := G5.size
      clear HQ1 HQ2 one hf1 hf2 G2 al5
      generalize u2.alloc (.cells #[.bool (sg (qOf x)), .slice A6 i6 j6, .slice B6 k6 m6] 54) = u4 at sl5 y75 oU5 G5 s5 ⊢
      generalize u2.heap.size = b5 at sl5 ⊢
      refine wpTill.next 12 rfl (by kernel_rfl) (by rfl) (fun KC hKC => ?_)
      refine oper_push rmT (v := .slice A3 i3 j3) (xv := .slice (some ⟨b5, 0, none⟩) 1 1) (S := fun k => V.heap.size ≤ k) (T := fun k => wr.drew.heap.size ≤ k) rfl rfl rfl oU5 sl5 (fun z cs hr => Rm.mono (fun k hk => ⟨by omega, fun e => by have := lt3 k e.symm; omega⟩) hr) (fun k hk => by omega) (by rw [List.length_map, rot_len]; simp only [List.length_singleton]; omega) (by rw [List.length_map, rot_len]; simp only [List.length_singleton]; omega) ?_
      intro v7 u5 ho hfr hat
      obtain ⟨A9, i9, q9, rfl⟩ := ho.form
      have G6 := (G5.mono fun κ _ (hκ : κ < wr.drew.heap.size ∧ some κ ≠ (Value.slice A3 i3 j3).ownBlock) => hκ.1).trans (hfr.mono fun κ _ hκ => hκ.2)
      have S0 := KS _ G6
      refine hKC _ _ (fun _ => S0) ?_
      clear hKC KC
      try simp only [Act.put, List.setIfInBounds_toArray, List.set_cons_zero, List.set_cons_succ]
      refine wpTill.take 13 (.pointer (some ⟨b7, 1, none⟩)) rfl (by kernel_rfl) (by kernel_rfl) (fun _ _ _ h => h) S0 (by rfl) (fun u hu => by go_simp) ?_
      try simp only [Act.put, List.setIfInBounds_toArray, List.set_cons_zero, List.set_cons_succ]
      have y76 := y75.fr hfr (fun e => by have := in3 _ e.symm; omega)
      have e0 := y76.c1
      have e1 := y76.free 1
      clear S0 KS
      refine wpTill.next 14 rfl (by kernel_rfl) (by rfl) (fun KC hKC => ?_)
      go_simp
      refine hKC _ _ (no_wait (by kernel_rfl)) ?_
      clear hKC KC
      try simp only [Act.put, List.setIfInBounds_toArray, List.set_cons_zero, List.set_cons_succ]
      refine wpTill.done (by kernel_rfl) ?_
      have F9 := fr_set1 u5 b7 1 (.slice A9 i9 q9)
      have y9 := y76.set1 (.slice A9 i9 q9)
      have o9 := ho.past F9 (fun k hk => by omega)
      have G9 := ((GV.trans ((DD _).trans (G5.mono fun k hk hh => by omega))).comp hfr (R := fun k => k < V.heap.size ∧ k ≠ b7) fun k _ hk => ⟨hk, fun e => by have := in3 _ e.symm; omega⟩).comp F9 (R := fun k => k < V.heap.size ∧ k ≠ b7) fun k _ hk => ⟨hk, hk.2⟩
      clear e0 e1
      go_wp2_with fail
      go_roundw
      case rel => exact ⟨j + 1, _, by go_num, by omega, y9, by rw [rot_can HS1.out]; exact o9, G9⟩
      case measure => first | (simp [intOf]; done) | (simp [intOf]; omega)
end Go.Proofs.YtlppcfeimpcbjaaGreat

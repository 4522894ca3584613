import Derived.Test.YtjnojkfkhccgaaaGreatTenR

/- law07's known. -/
namespace Go.Proofs.YtjnojkfkhccgaaaGreat
open Go.RowKit

theorem qOf_can (q : Rat) : qOf (canR q) = q := by
  unfold qOf canR
  simp only [val_dg]
  exact rv_self q
theorem like_can (q : Rat) : LikeR (canR q) := by
  unfold LikeR
  rw [qOf_can]
  exact ⟨rfl, rfl, rfl⟩
/-- Integers that a text lays. -/
theorem sl_ints {w : World} {t : TypeId} {b : Nat} (xs : List Int) (cells : List Value) (hc : cells = xs.map (fun x => .int .i64 x)) (hx : ∀ x ∈ xs, -9223372036854775808 ≤ x ∧ x < 9223372036854775808) (hl : xs.length ≤ 1099511627000) (hb : w.heap[b]? = some (.cells cells.toArray t)) :
    Sl Im (fun k => k < w.heap.size) w (.slice (some ⟨b, 0, none⟩) xs.length xs.length) xs := by
  refine ⟨some ⟨b, 0, none⟩, xs.length, rfl, Nat.le_refl _, by omega, fun h => by simp at h, fun _ => ⟨_, rfl, lt_of_block hb, fun i x hxi => ?_⟩⟩
  refine ⟨[.int .i64 x], ⟨rfl, hx x (List.mem_of_getElem? hxi)⟩, fun j u hj => ?_⟩
  have hj0 : j = 0 := by
    have := (List.getElem?_eq_some_iff.1 hj).1
    simp at this; exact this
  subst hj0
  simp at hj
  subst hj
  rw [addr_lit, cell_of_row w b _ _ t (0, 0) hb, hc]
  simp [hxi, Kd.int]
def kes : List RatL := ([1, 2, 3, 4] : List Int).map fun (z : Int) => canR (z : Rat)
theorem kes_len : kes.length = 4 := rfl
theorem kfits : fitsT [2, 2] 4 = 0 := by decide
theorem kfits3 : fitsT [2, 2] 3 = 13 := by decide
theorem kmay : mayT [2, 2] kes = 0 := mayT_0 kfits fun x hx => by
  obtain ⟨z, _, rfl⟩ := List.mem_map.1 hx
  exact like_can _
theorem koff : offE [2, 2] [1, 0] = 0 := offE_0 (by decide) rfl fun k hk => by
  simp at hk
  obtain rfl | rfl : k = 0 ∨ k = 1 := by omega
  · decide
  · decide
theorem kat : atE [2, 2] kes [1, 0] = 0 := (atE_off kmay).trans koff
theorem kofs : (ofs [2, 2] [1, 0] 2).toNat = 2 := by decide
theorem kq (i : Nat) (h : i < 4) : qOf (kes.getD i zR) = ((i + 1 : Nat) : Rat) := by
  obtain rfl | rfl | rfl | rfl : i = 0 ∨ i = 1 ∨ i = 2 ∨ i = 3 := by omega
  all_goals exact qOf_can _
theorem kdotE : dotE [2, 2] kes [2, 2] kes = 0 := dotE_0 kmay kmay rfl
theorem ksum (pre : List (Fin kes.length)) : ∀ n : Nat, ∃ m : Nat, pre.foldl (fun s i => s + qOf (kes.getD i.val zR) * qOf (kes.getD i.val zR)) (n : Rat) = (m : Rat) ∧ m ≤ n + 16 * pre.length := by
  induction pre with
  | nil => exact fun n => ⟨n, rfl, by simp⟩
  | cons x pre ih =>
    intro n
    have hx : x.val < 4 := x.isLt
    obtain ⟨m, h1, h2⟩ := ih (n + (x.val + 1) * (x.val + 1))
    refine ⟨m, ?_, ?_⟩
    · rw [List.foldl_cons, kq _ hx, ← Rat.natCast_mul, ← Rat.natCast_add]
      exact h1
    · have : (x.val + 1) * (x.val + 1) ≤ 4 * 4 := Nat.mul_le_mul (by omega) (by omega)
      rw [List.length_cons]
      omega
theorem kbound (pre : List (Fin kes.length)) (h : pre.length ≤ kes.length) : (dg LB (dotQ kes kes pre).num.natAbs).length ≤ 12 ∧ (dg LB (dotQ kes kes pre).den).length ≤ 12 := by
  obtain ⟨m, h1, h2⟩ := ksum pre 0
  have e : dotQ kes kes pre = (m : Rat) := h1
  have hl : pre.length ≤ 4 := h
  rw [e, Rat.num_natCast, Rat.den_natCast]
  refine ⟨Nat.le_trans (dg_len_le LB2 (k := 1) ?_) (by decide), Nat.le_trans (dg_len_le LB2 (k := 1) (by decide)) (by decide)⟩
  unfold LB
  simp only [Int.natAbs_natCast]
  omega
theorem kdot : dotT kes kes = 30 := by
  unfold dotT dotQ
  have e : List.finRange kes.length = ([⟨0, by decide⟩, ⟨1, by decide⟩, ⟨2, by decide⟩, ⟨3, by decide⟩] : List (Fin kes.length)) := by
    simp [kes_len, List.finRange]
  rw [e]
  simp only [List.foldl_cons, List.foldl_nil]
  rw [kq 0 (by decide), kq 1 (by decide), kq 2 (by decide), kq 3 (by decide)]
  decide +kernel
theorem kbits : bitsT kes = 3 := by
  have h : ∀ i, i < 4 → eb kes i = blen (i + 1) := fun i hi => by
    unfold eb
    rw [kq i hi, Rat.num_natCast, Rat.den_natCast]
    simp only [Int.natAbs_natCast]
    have h1 : blen 1 = 1 := blen_of (by decide) (by decide)
    rw [h1]
    have : 1 ≤ blen (i + 1) := (dg_len_pos (by decide)).2 (by omega)
    omega
  unfold bitsT bm
  rw [kes_len]
  have e : List.range 4 = [0, 1, 2, 3] := by decide
  rw [e]
  simp only [List.foldl_cons, List.foldl_nil]
  rw [h 0 (by decide), h 1 (by decide), h 2 (by decide), h 3 (by decide), show blen (0 + 1) = 1 from blen_of (by decide) (by decide), show blen (1 + 1) = 2 from blen_of (by decide) (by decide), show blen (2 + 1) = 2 from blen_of (by decide) (by decide), show blen (3 + 1) = 3 from blen_of (by decide) (by decide)]
  decide
theorem klen (x : RatL) (h : x ∈ kes) : x.2.1.length ≤ 2 ∧ x.2.2.length ≤ 2 := by
  obtain ⟨z, hz, rfl⟩ := List.mem_map.1 h
  have hb : 0 ≤ z ∧ z ≤ 4 := by
    simp only [List.mem_cons, List.not_mem_nil, or_false] at hz
    omega
  unfold canR
  simp only [Rat.num_intCast, Rat.den_intCast]
  refine ⟨dg_len_le LB2 ?_, Nat.le_trans (dg_len_le LB2 (k := 1) (by decide)) (by decide)⟩
  unfold LB
  omega
theorem int_h (w : World) (z : Int) (h0 : -9223372036854775808 ≤ z) (h1 : z ≤ 9223372036854775807) : Calls Tryz.prog 38 #[.int .i64 z] w fun e w' => ∃ s v1 v2, e = .returned (.agg #[.bool s, v1, v2]) ∧ Hid (s = sg (z : Rat)) ∧ Hid (RV (fun k => w.heap.size ≤ k) w' v1 v2 (z : Rat) 2) ∧ Fr (fun k => k < w.heap.size) w w' := by
  refine (int_n w z h0 h1).mono ?_
  rintro e w' ⟨v1, v2, rfl, h, hf⟩
  exact ⟨_, v1, v2, rfl, Lib.hid rfl, Lib.hid h, hf⟩
theorem sl_rats3 {w : World} {b : Nat} {t : TypeId} {p q r : Rat} {s1 s2 s3 : Bool} {u1 v1 u2 v2 u3 v3 : Value} {S1 S2 S3 : Nat → Prop} {L : Nat} (hb : w.heap[b]? = some (.cells #[.bool s1, u1, v1, .bool s2, u2, v2, .bool s3, u3, v3] t (0, 0)))
    (h1 : RV S1 w u1 v1 p L) (h2 : RV S2 w u2 v2 q L) (h3 : RV S3 w u3 v3 r L) (e1 : s1 = sg p) (e2 : s2 = sg q) (e3 : s3 = sg r) : Sl Rm (fun _ => True) w (.slice (some ⟨b, 0, none⟩) 3 3) [canR p, canR q, canR r] := by
  subst e1 e2 e3
  have cell := fun (i : Nat) => cell_of_row w b i _ t (0, 0) hb
  refine ⟨some ⟨b, 0, none⟩, 3, rfl, Nat.le_refl _, by omega, fun h => by simp at h, fun _ => ⟨_, rfl, trivial, fun i x hx => ?_⟩⟩
  rcases i with _ | _ | _ | i
  · obtain rfl : canR p = x := by simpa using hx
    refine ⟨_, ⟨u1, v1, rfl, h1.num.sl.any, h1.den.sl.any⟩, fun j u hj => ?_⟩
    rw [addr_lit, cell]
    rcases j with _ | _ | _ | j
    · simpa [Rm, canR] using hj
    · simpa [Rm, canR] using hj
    · simpa [Rm, canR] using hj
    · simp at hj
  · obtain rfl : canR q = x := by simpa using hx
    refine ⟨_, ⟨u2, v2, rfl, h2.num.sl.any, h2.den.sl.any⟩, fun j u hj => ?_⟩
    rw [addr_lit, cell]
    rcases j with _ | _ | _ | j
    · simpa [Rm, canR] using hj
    · simpa [Rm, canR] using hj
    · simpa [Rm, canR] using hj
    · simp at hj
  · obtain rfl : canR r = x := by simpa using hx
    refine ⟨_, ⟨u3, v3, rfl, h3.num.sl.any, h3.den.sl.any⟩, fun j u hj => ?_⟩
    rw [addr_lit, cell]
    rcases j with _ | _ | _ | j
    · simpa [Rm, canR] using hj
    · simpa [Rm, canR] using hj
    · simpa [Rm, canR] using hj
    · simp at hj
  · simp at hx
theorem klen3 (x : RatL) (h : x ∈ [canR ((1 : Int) : Rat), canR ((2 : Int) : Rat), canR ((3 : Int) : Rat)]) : x.2.1.length ≤ 2 ∧ x.2.2.length ≤ 2 := by
  refine klen x ?_
  simp only [List.mem_cons, List.not_mem_nil, or_false] at h
  rcases h with rfl | rfl | rfl <;> simp [kes]
theorem is_3 {S T : Nat → Prop} (w : World) (s t : Bool) (vn vd un ud : Value) (q p : Rat) (L K : Nat) (hs : Hid (s = sg q)) (ht : Hid (t = sg p)) (hq : Hid (RR S w vn vd q K)) (hp : Hid (RV T w un ud p L)) (e : Hid (q = p)) (hL : L ≤ 1099511620) :
    Calls Tryz.prog 20 #[.agg #[.bool s, vn, vd], .agg #[.bool t, un, ud]] w fun e w' => e = .returned (.bool true) ∧ Fr (fun k => k < w.heap.size) w w' :=
  ris_yes w s t vn vd un ud q p L K hq.out hs.out hp.out ht.out e.out hL

set_option maxRecDepth 20000 in
set_option maxHeartbeats 8000000 in
theorem tknown (w : World) : Calls Tryz.prog 13 #[] w fun e w' => e = .returned (.bool true) ∧ Fr (fun k => k < w.heap.size) w w' := by
  go_enter Tryz.func13, Tryz.ntmps13
  go_wp2_with fail
  have F0 := ((Fr.refl (fun k => k < w.heap.size) w).alloc (.cells #[.int .i64 2, .int .i64 2] 3)).alloc (.cells #[.int .i64 1, .int .i64 2, .int .i64 3, .int .i64 4] 3)
  have hs := sl_ints (w := (w.alloc (.cells #[.int .i64 2, .int .i64 2] 3)).alloc (.cells #[.int .i64 1, .int .i64 2, .int .i64 3, .int .i64 4] 3)) (b := w.heap.size) (t := 3) [2, 2] _ rfl (by decide) (by decide) (heap_a _ _ _)
  have hl := sl_ints (w := (w.alloc (.cells #[.int .i64 2, .int .i64 2] 3)).alloc (.cells #[.int .i64 1, .int .i64 2, .int .i64 3, .int .i64 4] 3)) (b := w.heap.size + 1) (t := 3) [1, 2, 3, 4] _ rfl (by decide) (by decide) (heap_b _ _ _)
  refine (whole_t _ _ _ [2, 2] [1, 2, 3, 4] hs hl (by decide) (by decide)).mono ?_
  rintro e w1 ⟨v1, v2, rfl, h1, h2, hf⟩
  obtain ⟨A1, n1, c1, rfl⟩ := h1.form
  obtain ⟨A2, n2, c2, rfl⟩ := h2.form
  have al := fun R => (Fr.refl R w1).alloc (.cells #[.slice A1 n1 c1, .slice A2 n2 c2] 26)
  have x1 := Box2.new w1 26 (.slice A1 n1 c1) (.slice A2 n2 c2)
  have S1 := Lib.hid (h1.sl.keep' Im_pos (al _))
  have S2 := Lib.hid (show Sl Rm _ _ (.slice A2 n2 c2) kes from h2.sl.keep' Rm_pos (al _))
  have F := fr_then (fr_then F0 hf) (al _)
  have a0 := x1.c0
  have a1 := x1.c1
  clear F0 hs hl h1 h2 hf al
  go_wp2_with fail
  have al2 := fun R => (Fr.refl R (w1.alloc (.cells #[.slice A1 n1 c1, .slice A2 n2 c2] 26))).alloc (.cells #[.int .i64 1, .int .i64 0] 3)
  have hi := sl_ints (w := (w1.alloc (.cells #[.slice A1 n1 c1, .slice A2 n2 c2] 26)).alloc (.cells #[.int .i64 1, .int .i64 0] 3)) (b := w1.heap.size + 1) (t := 3) [1, 0] _ rfl (by decide) (by decide) (heap_b _ _ _)
  have p := at_t _ (.slice A1 n1 c1) (.slice A2 n2 c2) (.slice (some ⟨w1.heap.size + 1, 0, none⟩) 2 2) [2, 2] [1, 0] kes 2 (S1.out.keep' Im_pos (al2 _)) (S2.out.keep' Rm_pos (al2 _)) hi klen (by decide) (by decide)
  rw [kat] at p
  with_reducible refine p.mono ?_
  rintro e w2 ⟨s, v1, v2, rfl, -, hk, hf⟩
  obtain ⟨hsg, rv⟩ := hk rfl
  have e3 : qOf (kes.getD (ofs [2, 2] [1, 0] [(2 : Int), 2].length).toNat zR) = ((3 : Nat) : Rat) := by
    rw [show [(2 : Int), 2].length = 2 from rfl, kofs]
    exact kq 2 (by decide)
  rw [e3] at hsg rv
  obtain ⟨⟨P1, i1, j1, rfl⟩, ⟨P2, i2, j2, rfl⟩⟩ := rv.form
  have HS := Lib.hid hsg
  have al3 := fun R => (Fr.refl R w2).alloc (.cells #[.bool s, .slice P1 i1 j1, .slice P2 i2 j2] 43)
  have y2 := Box3.new w2 43 (.bool s) (.slice P1 i1 j1) (.slice P2 i2 j2)
  have RV1 := Lib.hid (rv.keep (al3 _))
  replace x1 := ((x1.alloc (.cells #[.int .i64 1, .int .i64 0] 3)).keep hf).keep (al3 _)
  replace S1 := Lib.hid (((S1.out.keep' Im_pos (al2 _)).keep' Im_pos hf).keep' Im_pos (al3 _))
  replace S2 := Lib.hid (((S2.out.keep' Rm_pos (al2 _)).keep' Rm_pos hf).keep' Rm_pos (al3 _))
  replace F := (fr_then (F.alloc (.cells #[.int .i64 1, .int .i64 0] 3)) hf).alloc (.cells #[.bool s, .slice P1 i1 j1, .slice P2 i2 j2] 43)
  clear al2 hi p hk hsg rv e3 hf al3 a0 a1
  have a0 := x1.c0
  have a1 := x1.c1
  go_wp2_with fail
  have p := dot_t _ (.slice A1 n1 c1) (.slice A2 n2 c2) (.slice A1 n1 c1) (.slice A2 n2 c2) [2, 2] [2, 2] kes kes 2 12 S1.out S2.out S1.out S2.out klen klen (by decide) (by decide) (by decide) kbound
  rw [kdotE, kdot] at p
  with_reducible refine p.mono ?_
  rintro e w3 ⟨s2, v1, v2, rfl, -, hk, hf⟩
  obtain ⟨hsg, rv⟩ := hk rfl
  obtain ⟨⟨P3, i3, j3, rfl⟩, ⟨P4, i4, j4, rfl⟩⟩ := rv.form
  have HS2 := Lib.hid hsg
  have al3 := fun R => (Fr.refl R w3).alloc (.cells #[.bool s2, .slice P3 i3 j3, .slice P4 i4 j4] 43)
  have y4 := Box3.new w3 43 (.bool s2) (.slice P3 i3 j3) (.slice P4 i4 j4)
  have RV2 := Lib.hid (rv.keep (al3 _))
  replace x1 := (x1.keep hf).keep (al3 _)
  replace y2 := (y2.keep hf).keep (al3 _)
  replace RV1 := Lib.hid ((RV1.out.keep hf).keep (al3 _))
  replace S1 := Lib.hid ((S1.out.keep' Im_pos hf).keep' Im_pos (al3 _))
  replace S2 := Lib.hid ((S2.out.keep' Rm_pos hf).keep' Rm_pos (al3 _))
  replace F := (fr_then F hf).alloc (.cells #[.bool s2, .slice P3 i3 j3, .slice P4 i4 j4] 43)
  clear p hk hsg rv hf al3 a0 a1
  go_wp2_with fail
  have sl2 := sl_ints (w := (w3.alloc (.cells #[.bool s2, .slice P3 i3 j3, .slice P4 i4 j4] 43)).alloc (.cells #[.int .i64 2, .int .i64 2] 3)) (b := w3.heap.size + 1) (t := 3) [2, 2] _ rfl (by decide) (by decide) (heap_b _ _ _)
  have al2 := fun R => (Fr.refl R (w3.alloc (.cells #[.bool s2, .slice P3 i3 j3, .slice P4 i4 j4] 43))).alloc (.cells #[.int .i64 2, .int .i64 2] 3)
  replace x1 := x1.keep (al2 _)
  replace y2 := y2.keep (al2 _)
  replace y4 := y4.keep (al2 _)
  replace RV1 := Lib.hid (RV1.out.keep (al2 _))
  replace RV2 := Lib.hid (RV2.out.keep (al2 _))
  replace S2 := Lib.hid (S2.out.keep' Rm_pos (al2 _))
  replace F := F.alloc (.cells #[.int .i64 2, .int .i64 2] 3)
  have SS := Lib.hid sl2
  replace S1 := Lib.hid (S1.out.keep' Im_pos (al2 _))
  clear al2 sl2
  refine (int_h _ 1 (by decide) (by decide)).mono ?_
  rintro e u1 ⟨t1, v1, v2, rfl, ht1, g1, hf⟩
  obtain ⟨⟨R1, k1, l1, rfl⟩, ⟨R2, k2, l2, rfl⟩⟩ := g1.out.form
  replace x1 := x1.keep hf
  replace y2 := y2.keep hf
  replace y4 := y4.keep hf
  replace RV1 := Lib.hid (RV1.out.keep hf)
  replace RV2 := Lib.hid (RV2.out.keep hf)
  replace S2 := Lib.hid (S2.out.keep' Rm_pos hf)
  replace S1 := Lib.hid (S1.out.keep' Im_pos hf)
  replace SS := Lib.hid (SS.out.keep' Im_pos hf)
  replace F := fr_then F hf
  clear hf
  go_wp2_with fail
  refine (int_h _ 2 (by decide) (by decide)).mono ?_
  rintro e u2 ⟨t2, v1, v2, rfl, ht2, g2, hf⟩
  obtain ⟨⟨R3, k3, l3, rfl⟩, ⟨R4, k4, l4, rfl⟩⟩ := g2.out.form
  replace g1 := Lib.hid (g1.out.keep hf)
  replace x1 := x1.keep hf
  replace y2 := y2.keep hf
  replace y4 := y4.keep hf
  replace RV1 := Lib.hid (RV1.out.keep hf)
  replace RV2 := Lib.hid (RV2.out.keep hf)
  replace S2 := Lib.hid (S2.out.keep' Rm_pos hf)
  replace S1 := Lib.hid (S1.out.keep' Im_pos hf)
  replace SS := Lib.hid (SS.out.keep' Im_pos hf)
  replace F := fr_then F hf
  clear hf
  go_wp2_with fail
  refine (int_h _ 3 (by decide) (by decide)).mono ?_
  rintro e u3 ⟨t3, v1, v2, rfl, ht3, g3, hf⟩
  obtain ⟨⟨R5, k5, l5, rfl⟩, ⟨R6, k6, l6, rfl⟩⟩ := g3.out.form
  have al3 := fun R => (Fr.refl R u3).alloc (.cells #[.bool t1, .slice R1 k1 l1, .slice R2 k2 l2, .bool t2, .slice R3 k3 l3, .slice R4 k4 l4, .bool t3, .slice R5 k5 l5, .slice R6 k6 l6] 43)
  have se := Lib.hid (sl_rats3 (heap_alloc_new u3 (.cells #[.bool t1, .slice R1 k1 l1, .slice R2 k2 l2, .bool t2, .slice R3 k3 l3, .slice R4 k4 l4, .bool t3, .slice R5 k5 l5, .slice R6 k6 l6] 43)) ((g1.out.keep hf).keep (al3 _)) ((g2.out.keep hf).keep (al3 _)) (g3.out.keep (al3 _)) ht1.out ht2.out ht3.out)
  replace x1 := (x1.keep hf).keep (al3 _)
  replace y2 := (y2.keep hf).keep (al3 _)
  replace y4 := (y4.keep hf).keep (al3 _)
  replace RV1 := Lib.hid ((RV1.out.keep hf).keep (al3 _))
  replace RV2 := Lib.hid ((RV2.out.keep hf).keep (al3 _))
  replace S2 := Lib.hid ((S2.out.keep' Rm_pos hf).keep' Rm_pos (al3 _))
  replace S1 := Lib.hid ((S1.out.keep' Im_pos hf).keep' Im_pos (al3 _))
  replace SS := Lib.hid ((SS.out.keep' Im_pos hf).keep' Im_pos (al3 _))
  replace F := fr_then (fr_then F hf) (al3 _)
  clear hf al3 g1 g2 g3 ht1 ht2 ht3
  go_wp2_with fail
  have p := make_t _ (.slice (some ⟨w3.heap.size + 1, 0, none⟩) 2 2) (.slice (some ⟨u3.heap.size, 0, none⟩) 3 3) [2, 2] _ 2 SS.out se.out klen3 (by decide) (by decide) (by decide) (by decide)
  rw [show fitsT [2, 2] [canR ((1 : Int) : Rat), canR ((2 : Int) : Rat), canR ((3 : Int) : Rat)].length = 13 from kfits3] at p
  with_reducible refine p.mono ?_
  rintro e u4 ⟨v1, v2, rfl, hn, -, hf⟩
  obtain ⟨rfl, rfl⟩ := hn (by decide)
  have al4 := fun R => ((Fr.refl R u4).alloc (.cells #[.slice none 0 0, .slice none 0 0] 26))
  replace x1 := (x1.keep hf).keep (al4 _)
  replace y2 := (y2.keep hf).keep (al4 _)
  replace y4 := (y4.keep hf).keep (al4 _)
  replace RV1 := Lib.hid ((RV1.out.keep hf).keep (al4 _))
  replace RV2 := Lib.hid ((RV2.out.keep hf).keep (al4 _))
  replace S2 := Lib.hid ((S2.out.keep' Rm_pos hf).keep' Rm_pos (al4 _))
  replace S1 := Lib.hid ((S1.out.keep' Im_pos hf).keep' Im_pos (al4 _))
  replace F := fr_then (fr_then F hf) (al4 _)
  clear hf al4 p hn se SS
  go_wp2_with fail
  generalize hW5 : u4.alloc (.cells #[.slice none 0 0, .slice none 0 0] 26) = W5 at x1 y2 y4 RV1 RV2 S1 S2 F ⊢
  have D := fun R => (Fr.refl R W5).drew
  replace x1 := x1.keep (D _)
  replace y2 := y2.keep (D _)
  replace y4 := y4.keep (D _)
  replace RV1 := Lib.hid (RV1.out.keep (D _))
  replace RV2 := Lib.hid (RV2.out.keep (D _))
  replace S2 := Lib.hid (S2.out.keep' Rm_pos (D _))
  replace S1 := Lib.hid (S1.out.keep' Im_pos (D _))
  replace F := F.drew
  have KS : ∀ u, Fr (fun k => k < W5.drew.heap.size) W5.drew u → u.cell? ⟨w1.heap.size, 0, none⟩ = some (.slice A1 n1 c1) ∧ u.cell? ⟨w1.heap.size, 1, none⟩ = some (.slice A2 n2 c2) ∧ u.cell? ⟨w2.heap.size, 0, none⟩ = some (.bool s) ∧ u.cell? ⟨w2.heap.size, 1, none⟩ = some (.slice P1 i1 j1) ∧ u.cell? ⟨w2.heap.size, 2, none⟩ = some (.slice P2 i2 j2) ∧ u.cell? ⟨w3.heap.size, 0, none⟩ = some (.bool s2) ∧ u.cell? ⟨w3.heap.size, 1, none⟩ = some (.slice P3 i3 j3) ∧ u.cell? ⟨w3.heap.size, 2, none⟩ = some (.slice P4 i4 j4) := fun u h => by
    have z1 := x1.keep h
    have z2 := y2.keep h
    have z3 := y4.keep h
    exact ⟨z1.c0, z1.c1, z2.c0, z2.c1, z2.c2, z3.c0, z3.c1, z3.c2⟩
  have K0 := Fr.refl (fun k => k < W5.drew.heap.size) W5.drew
  have E3 := Lib.hid (show ((3 : Int) : Rat) = ((3 : Nat) : Rat) from rfl)
  have E30 := Lib.hid (show ((30 : Int) : Rat) = (30 : Rat) from rfl)
  have KB := Lib.hid kbits
  clear D x1 y2 y4 hW5
  go_region_held3 (fun u => u.cell? ⟨w1.heap.size, 0, none⟩ = some (.slice A1 n1 c1) ∧ u.cell? ⟨w1.heap.size, 1, none⟩ = some (.slice A2 n2 c2) ∧ u.cell? ⟨w2.heap.size, 0, none⟩ = some (.bool s) ∧ u.cell? ⟨w2.heap.size, 1, none⟩ = some (.slice P1 i1 j1) ∧ u.cell? ⟨w2.heap.size, 2, none⟩ = some (.slice P2 i2 j2) ∧ u.cell? ⟨w3.heap.size, 0, none⟩ = some (.bool s2) ∧ u.cell? ⟨w3.heap.size, 1, none⟩ = some (.slice P3 i3 j3) ∧ u.cell? ⟨w3.heap.size, 2, none⟩ = some (.slice P4 i4 j4)) (with_reducible exact KS _ K0) (first
    | ((with_reducible refine (rint_s _ 3 (by decide) (by decide)).mono ?_); rintro e wq ⟨s3, v1, v2, rfl, hs3, hr3, hf⟩; obtain ⟨⟨I1, a1, b1, rfl⟩, ⟨J1, a2, b2, rfl⟩⟩ := hr3.out.form; have K0 := fr_then K0 hf)
    | ((with_reducible refine (rint_s _ 30 (by decide) (by decide)).mono ?_); rintro e wq ⟨s4, v1, v2, rfl, hs4, hr4, hf⟩; obtain ⟨⟨I2, a3, b3, rfl⟩, ⟨J2, a4, b4, rfl⟩⟩ := hr4.out.form; have K0 := fr_then K0 hf)
    | ((with_reducible refine (is_3 _ _ _ _ _ _ _ _ _ _ _ hs4 HS2 hr4 (Lib.hid (RV2.out.keep K0)) E30 (by decide)).mono ?_); rintro e wq ⟨rfl, hf⟩; have K0 := fr_then K0 hf)
    | ((with_reducible refine (is_3 _ _ _ _ _ _ _ _ _ _ _ hs3 HS hr3 (Lib.hid (RV1.out.keep K0)) E3 (by decide)).mono ?_); rintro e wq ⟨rfl, hf⟩; have K0 := fr_then K0 hf)
    | ((with_reducible refine (bits_t _ (.slice A1 n1 c1) (.slice A2 n2 c2) [2, 2] kes 2 (S1.out.keep' Im_pos K0) (S2.out.keep' Rm_pos K0) klen (by decide) (by decide)).mono ?_); rintro e wq ⟨rfl, hf⟩; rw [KB.out]; have K0 := fr_then K0 hf))
  go_wp2_with fail
  go_ret
  exact ⟨rfl, fr_then F K0⟩
end Go.Proofs.YtjnojkfkhccgaaaGreat

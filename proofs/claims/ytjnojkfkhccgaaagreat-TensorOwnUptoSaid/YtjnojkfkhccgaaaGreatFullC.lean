import Derived.Test.YtjnojkfkhccgaaaGreatRepeat
import Derived.Test.YtjnojkfkhccgaaaGreatFullB

/- tensor.Full, Scalar. -/
namespace Go.Proofs.YtjnojkfkhccgaaaGreat
open Go.RowKit

/-- A row of one rational, so many times: it reads as a list. -/
theorem rep_sl {S : Nat → Prop} {w : World} {g N : Nat} {s : Bool} {vn vd : Value} {xs ys : List Nat} (hx : Sl Lm S w vn xs) (hy : Sl Lm S w vd ys) (hg : w.heap[g]? = some (.cells (List.replicate N [.bool s, vn, vd]).flatten.toArray 43 (0, 0))) (hN : N ≤ 1024) :
    Sl Rm (fun _ => True) w (.slice (some ⟨g, 0, none⟩) N N) (List.replicate N (s, xs, ys)) := by
  refine ⟨some ⟨g, 0, none⟩, N, by rw [List.length_replicate], by rw [List.length_replicate]; exact Nat.le_refl _, by omega, fun h => by simp at h, fun _ => ⟨_, rfl, trivial, fun i x hx' => ?_⟩⟩
  have hi : i < N := by have := (List.getElem?_eq_some_iff.1 hx').1; rwa [List.length_replicate] at this
  rw [List.getElem?_replicate, if_pos hi] at hx'
  cases hx'
  refine ⟨[.bool s, vn, vd], ⟨vn, vd, rfl, hx.any, hy.any⟩, fun j u hj => ?_⟩
  have hj3 : j < 3 := by have := (List.getElem?_eq_some_iff.1 hj).1; simpa using this
  rw [addr_lit, cell_of_row w g _ _ _ (0, 0) hg, Nat.zero_add, List.getElem?_toArray, show Rm.size = 3 from rfl]
  rw [rep_get rfl (by omega), show (i * 3 + j) % 3 = j by omega]
  exact hj

/-- What Full answers. -/
def FullE (sh : List Int) : Int := mayS sh
theorem fits_rep {sh : List Int} (h : mayS sh = 0) {x : RatL} : fitsT sh (List.replicate (cntS sh).toNat x).length = 0 := by
  obtain ⟨h4, h1, h2⟩ := mayS_ok h
  have := pr_pos h1
  refine fitsT_0 h ?_
  rw [List.length_replicate, cntS_ok h]
  omega
def FullR (w : World) (sh : List Int) (x : RatL) (r : Int) (e : Ending) (w' : World) : Prop := ∃ v1 v2, e = .returned (.tuple #[.agg #[v1, v2], .int .i64 r]) ∧ (r ≠ 0 → v1 = .slice none 0 0 ∧ v2 = .slice none 0 0) ∧
  (r = 0 → Own Im 3 (fun k => w.heap.size ≤ k) w' v1 sh ∧ Own Rm 43 (fun k => w.heap.size ≤ k) w' v2 (List.replicate (cntS sh).toNat (normR x))) ∧ Fr (fun k => k < w.heap.size) w w'

set_option maxRecDepth 20000 in
set_option maxHeartbeats 4000000 in
theorem full_t {S T : Nat → Prop} (w : World) (vs vn vd : Value) (sh : List Int) (x : RatL) (L : Nat) (hs : Sl Im S w vs sh) (hx : Sl Lm T w vn x.2.1) (hy : Sl Lm T w vd x.2.2) (hl : x.2.1.length ≤ L ∧ x.2.2.length ≤ L) (hL1 : 1 ≤ L) (hL : L ≤ 104857600) (hsl : sh.length ≤ 1099511627000) :
    Calls Tryz.prog 25 #[vs, .agg #[.bool x.1, vn, vd]] w (FullR w sh x (mayS sh)) := by
  obtain ⟨A, c, rfl, _, _, hlx⟩ := hs.slice
  obtain ⟨P, n1, c1, rfl⟩ := hx.form
  obtain ⟨Q, n2, c2, rfl⟩ := hy.form
  obtain ⟨r, hr⟩ : ∃ r, r = mayS sh := ⟨_, rfl⟩
  rw [← hr]
  have HR := Lib.hid hr
  have HL := Lib.hid hl
  obtain ⟨sx, hsx⟩ : ∃ s, s = x.1 := ⟨_, rfl⟩
  rw [← hsx]
  have F := ((Fr.refl (fun k => k < w.heap.size) w).alloc (.cells #[.bool sx, .slice P n1 c1, .slice Q n2 c2] 43)).alloc (.cells #[.slice none 0 0, .slice none 0 0] 26)
  have x0 := (Box3.new w 43 (.bool sx) (.slice P n1 c1) (.slice Q n2 c2)).alloc (.cells #[.slice none 0 0, .slice none 0 0] 26)
  have b2 := Box2.new (w.alloc (.cells #[.bool sx, .slice P n1 c1, .slice Q n2 c2] 43)) 26 (.slice none 0 0) (.slice none 0 0)
  simp only [World.size_alloc] at b2
  have HS := Lib.hid (hs.low Im_pos)
  have HX := Lib.hid (hx.low Lm_pos)
  have HY := Lib.hid (hy.low Lm_pos)
  have HSX := Lib.hid hsx
  clear hs hx hy hr hl hsx
  go_enter Tryz.func25, Tryz.ntmps25
  go_wp2_with fail
  generalize hW0 : (w.alloc (.cells #[.bool sx, .slice P n1 c1, .slice Q n2 c2] 43)).alloc (.cells #[.slice none 0 0, .slice none 0 0] 26) = W0 at F x0 b2 ⊢
  clear hW0
  have PM := Lib.hid (shmay_calls W0 (.slice A sh.length c) sh (HS.out.fr F))
  rw [← HR.out] at PM
  with_reducible refine PM.out.mono ?_
  rintro e W1 ⟨rfl, rfl⟩
  clear PM
  by_cases h0 : r = 0
  case neg =>
    go_wp2_with ((with_reducible apply wpList_st2); rfl; rfl; exact b2; exact ten2; rfl; rfl; intro w9 B9 F9)
    refine bodyPost_ret (results_cell2_tmp rfl rfl B9 Tryz.underlying26 ten2) rfl ?_
    exact ⟨.slice none 0 0, .slice none 0 0, rfl, fun _ => ⟨rfl, rfl⟩, fun h => absurd h h0, F.comp F9 fun k _ hk => ⟨hk, by omega⟩⟩
  subst h0
  go_wp2_with fail
  have D := fun R => (Fr.refl R W1).drew
  replace x0 := x0.keep (D _)
  replace b2 := b2.keep (D _)
  replace F := F.drew
  clear D
  obtain ⟨h4, h1, h2⟩ := mayS_ok HR.out.symm
  have hpos := pr_pos h1
  obtain ⟨N, hN⟩ : ∃ N : Nat, cntS sh = (N : Int) := ⟨(cntS sh).toNat, by rw [cntS_ok HR.out.symm]; omega⟩
  have hNt : (cntS sh).toNat = N := by omega
  have hN2 : N ≤ 1024 := by rw [cntS_ok HR.out.symm] at hN; omega
  have HNT := Lib.hid hNt
  have HN := Lib.hid hN
  clear hNt hN h1
  have KS : ∀ u, Fr (fun k => k < W1.drew.heap.size) W1.drew u → u.cell? ⟨w.heap.size, 0, none⟩ = some (.bool sx) ∧ u.cell? ⟨w.heap.size, 1, none⟩ = some (.slice P n1 c1) ∧ u.cell? ⟨w.heap.size, 2, none⟩ = some (.slice Q n2 c2) := fun u h => ⟨(x0.keep h).c0, (x0.keep h).c1, (x0.keep h).c2⟩
  have S0 := KS _ (Fr.refl _ _)
  refine wpTill.begin (fun u => u.cell? ⟨w.heap.size, 0, none⟩ = some (.bool sx) ∧ u.cell? ⟨w.heap.size, 1, none⟩ = some (.slice P n1 c1) ∧ u.cell? ⟨w.heap.size, 2, none⟩ = some (.slice Q n2 c2)) 9 (by kernel_rfl) ?_
  change wpTill _ _ _ _ _ _ 11 _ _ _
  refine wpTill.take 0 (.slice A sh.length c) rfl (by kernel_rfl) (by kernel_rfl) (fun _ _ _ h => h) S0 (by rfl) (fun u hu => by go_simp) ?_
  try simp only [Act.put, List.getElem_toArray, List.getElem_cons_zero, List.getElem_cons_succ, List.setIfInBounds_toArray, List.set_cons_zero, List.set_cons_succ]
  refine wpTill.take 1 (.agg #[.bool sx, .slice P n1 c1, .slice Q n2 c2]) rfl (by kernel_rfl) (by kernel_rfl) (fun _ _ _ h => h) S0 (by rfl) (fun u hu => by go_simp) ?_
  try simp only [Act.put, List.getElem_toArray, List.getElem_cons_zero, List.getElem_cons_succ, List.setIfInBounds_toArray, List.set_cons_zero, List.set_cons_succ]
  refine wpTill.take 3 (.slice A sh.length c) rfl (by kernel_rfl) (by kernel_rfl) (fun _ _ _ h => h) S0 (by rfl) (fun u hu => by go_simp) ?_
  try simp only [Act.put, List.getElem_toArray, List.getElem_cons_zero, List.getElem_cons_succ, List.setIfInBounds_toArray, List.set_cons_zero, List.set_cons_succ]
  refine wpTill.free (jj := 9) (m := 2) [(2, Fact.one (fun v u => ∃ b, v = .slice (some ⟨b, 0, none⟩) 1 1 ∧ u.heap[b]? = some (.cells #[.bool sx, .slice P n1 c1, .slice Q n2 c2] 43 (0, 0))) (fun hf ⟨b, e, h⟩ => ⟨b, e, hf.obj h (lt_of_block h)⟩)),
      (4, Fact.eq (.int .i64 N)),
      (5, Fact.one (fun v u => ∃ g, v = .slice (some ⟨g, 0, none⟩) N N ∧ u.heap[g]? = some (.cells (List.replicate N [.bool sx, .slice P n1 c1, .slice Q n2 c2]).flatten.toArray 43 (0, 0))) (fun hf ⟨b, e, h⟩ => ⟨b, e, hf.obj h (lt_of_block h)⟩)),
      (6, Fact.one (fun v u => ∃ B1 m1 k1 B2 m2 k2, v = .tuple #[.agg #[.slice B1 m1 k1, .slice B2 m2 k2], .int .i64 0] ∧ Own Im 3 (fun k => W1.drew.heap.size ≤ k) u (.slice B1 m1 k1) sh ∧ Own Rm 43 (fun k => W1.drew.heap.size ≤ k) u (.slice B2 m2 k2) (List.replicate N (normR x))) (fun hf ⟨B1, m1, k1, B2, m2, k2, e, h, g⟩ => ⟨B1, m1, k1, B2, m2, k2, e, h.keep' hf, g.keep' hf⟩)),
      (7, Fact.two 6 (fun v t => ∃ x y, t = .tuple #[x, y] ∧ v = x)),
      (8, Fact.two 6 (fun v t => ∃ x y, t = .tuple #[x, y] ∧ v = y))] [] [0, 0, 2, 0, 8, 30, 63, 127, 127, 511, 1023] [0, 1, 3] ?_ (by kernel_rfl) (by kernel_rfl) (by kernel_rfl) [(2, some 15), (4, some 17), (5, some 18), (6, some 19), (7, some 20), (8, some 21)] (by kernel_rfl) ?hA (fun _ _ _ _ _ h => h) KS (by kernel_rfl) ?steps trivial ?cont
  case hA =>
    intro vs
    simp only [fillD, List.foldl_cons, List.foldl_nil, Act.put, List.setIfInBounds_toArray, List.set_cons_zero, List.set_cons_succ]
    exact rfl
  case steps =>
    refine ⟨?_, ?_, ?_, ?_, ?_, ?_, trivial⟩
    · intro vs u h G
      have hu := KS u G
      exact stepAt.value (v := .slice (some ⟨u.heap.size, 0, none⟩) 1 1) (u := u.alloc (.cells #[.bool sx, .slice P n1 c1, .slice Q n2 c2] 43)) rfl rfl (by go_simp) ((Fr.refl _ _).alloc _) ⟨_, rfl, heap_alloc_new _ _⟩
    · intro vs u h G
      refine stepAt.call (f := 57) (args := #[.slice A sh.length c]) rfl rfl (by go_simp) ?_
      have p := shcount_calls u (.slice A sh.length c) sh (HS.out.fr (fr_then F G))
      rw [HN.out] at p
      refine p.mono ?_
      rintro e u' ⟨rfl, rfl⟩
      exact ⟨_, rfl, Fr.refl _ _, rfl⟩
    · rintro vs u ⟨h2, h4, -⟩ G
      obtain ⟨b, e2, hb⟩ := h2 rfl
      have e4 : vs 4 = .int .i64 N := h4 rfl
      refine stepAt.call (f := 56) (args := #[vs 2, vs 4]) rfl rfl (by go_simp) ?_
      rw [show vs 2 = _ from e2, e4]
      refine (repeat_t u b sx P Q n1 c1 n2 c2 N hb hN2).mono ?_
      rintro e u' ⟨g, rfl, hg, hc, hf⟩
      exact ⟨_, rfl, hf, g, rfl, hc⟩
    · rintro vs u ⟨-, -, h5, -⟩ G
      obtain ⟨g, e5, hg⟩ := h5 rfl
      refine stepAt.call (f := 9) (args := #[.slice A sh.length c, vs 5]) rfl rfl (by go_simp) ?_
      rw [show vs 5 = _ from e5]
      have hre := rep_sl (HX.out.fr (fr_then F G)) (HY.out.fr (fr_then F G)) hg hN2
      have hfit := fits_rep HR.out.symm (x := (sx, x.2.1, x.2.2))
      rw [HNT.out] at hfit
      have p := make_t u (.slice A sh.length c) (.slice (some ⟨g, 0, none⟩) N N) sh (List.replicate N (sx, x.2.1, x.2.2)) L (HS.out.fr (fr_then F G)) hre (fun y hy => by rw [List.eq_of_mem_replicate hy]; exact HL.out) hL1 hL hsl (by rw [List.length_replicate]; omega)
      rw [hfit] at p
      refine p.mono ?_
      rintro e u' ⟨v1, v2, rfl, -, hk, hf⟩
      obtain ⟨o1, o2⟩ := hk rfl
      obtain ⟨B1, m1, k1, rfl⟩ := o1.form
      obtain ⟨B2, m2, k2, rfl⟩ := o2.form
      rw [List.map_replicate, HSX.out] at o2
      exact ⟨_, rfl, hf, _, _, _, _, _, _, rfl, o1.mono fun k hk => Nat.le_trans G.size hk, o2.mono fun k hk => Nat.le_trans G.size hk⟩
    · rintro vs u ⟨-, -, -, h6, -⟩ G
      obtain ⟨B1, m1, k1, B2, m2, k2, e6, -⟩ := h6 rfl
      replace e6 : vs 6 = _ := e6
      exact stepAt.pure (v := .agg #[.slice B1 m1 k1, .slice B2 m2 k2]) rfl rfl (by simp only [e6]; go_simp) ⟨_, _, e6, rfl⟩
    · rintro vs u ⟨-, -, -, h6, -⟩ G
      obtain ⟨B1, m1, k1, B2, m2, k2, e6, -⟩ := h6 rfl
      replace e6 : vs 6 = _ := e6
      exact stepAt.pure (v := .int .i64 0) rfl rfl (by simp only [e6]; go_simp) ⟨_, _, e6, rfl⟩
  case cont =>
    rintro vs u ⟨-, -, -, ⟨B1, m1, k1, B2, m2, k2, e6, o1, o2⟩, ⟨y1, z1, e7, q7⟩, ⟨y2, z2, e8, q8⟩, -⟩ G
    replace e6 : vs 6 = _ := e6
    have t7 := e6.symm.trans e7
    have t8 := e6.symm.trans e8
    cases t7
    cases t8
    replace q7 : vs 7 = _ := q7
    replace q8 : vs 8 = _ := q8
    simp only [e6, q7, q8]
    clear e6 e7 e8 q7 q8 S0
    have b3 := b2.keep G
    have lw := b2.lt
    have a0 := b3.c0; have a1 := b3.c1; have a2 := b3.free 0; have a3 := b3.free 1
    refine wpTill.next 9 rfl (by kernel_rfl) (by rfl) (fun K hK => ?_)
    go_simp
    refine hK _ _ (no_wait (by kernel_rfl)) ?_
    clear hK K a0 a1 a2 a3
    try simp only [Act.put, List.getElem_toArray, List.getElem_cons_zero, List.getElem_cons_succ, List.setIfInBounds_toArray, List.set_cons_zero, List.set_cons_succ]
    refine wpTill.next 10 rfl (by kernel_rfl) (by rfl) (fun K hK => ?_)
    go_simp
    refine hK _ _ (no_wait (by kernel_rfl)) ?_
    clear hK K
    try simp only [Act.put, List.getElem_toArray, List.getElem_cons_zero, List.getElem_cons_succ, List.setIfInBounds_toArray, List.set_cons_zero, List.set_cons_succ]
    refine wpTill.done (by kernel_rfl) ?_
    have B9 := b3.set2 (.slice B1 m1 k1) (.slice B2 m2 k2)
    have F9 := (fr_set1 u (w.heap.size + 1) 0 (.slice B1 m1 k1)).trans (fr_set1 _ (w.heap.size + 1) 1 (.slice B2 m2 k2))
    have FG := fr_then F G
    go_wp2_with fail
    refine bodyPost_ret (results_cell2_tmp rfl rfl B9 Tryz.underlying26 ten2) rfl ?_
    rw [HNT.out.symm] at o2
    exact ⟨_, _, rfl, fun h => absurd rfl h, fun _ => ⟨(o1.past F9 fun k hk => by omega).mono fun k hk => by omega, (o2.past F9 fun k hk => by omega).mono fun k hk => by omega⟩, FG.comp F9 fun k _ hk => ⟨hk, by omega⟩⟩

set_option maxRecDepth 20000 in
set_option maxHeartbeats 4000000 in
theorem scalar_t {T : Nat → Prop} (w : World) (vn vd : Value) (x : RatL) (L : Nat) (hx : Sl Lm T w vn x.2.1) (hy : Sl Lm T w vd x.2.2) (hl : x.2.1.length ≤ L ∧ x.2.2.length ≤ L) (hL1 : 1 ≤ L) (hL : L ≤ 104857600) :
    Calls Tryz.prog 27 #[.agg #[.bool x.1, vn, vd]] w fun e w' => ∃ v1 v2, e = .returned (.agg #[v1, v2]) ∧ Own Im 3 (fun k => w.heap.size ≤ k) w' v1 [] ∧ Own Rm 43 (fun k => w.heap.size ≤ k) w' v2 [normR x] ∧ Fr (fun k => k < w.heap.size) w w' := by
  obtain ⟨P, n1, c1, rfl⟩ := hx.form
  obtain ⟨Q, n2, c2, rfl⟩ := hy.form
  have HL := Lib.hid hl
  obtain ⟨sx, hsx⟩ : ∃ s, s = x.1 := ⟨_, rfl⟩
  rw [← hsx]
  have F := ((Fr.refl (fun k => k < w.heap.size) w).alloc (.cells #[.bool sx, .slice P n1 c1, .slice Q n2 c2] 43)).alloc (.cells #[.slice none 0 0, .slice none 0 0] 26)
  have b2 := Box2.new (w.alloc (.cells #[.bool sx, .slice P n1 c1, .slice Q n2 c2] 43)) 26 (.slice none 0 0) (.slice none 0 0)
  simp only [World.size_alloc] at b2
  have HX := Lib.hid (hx.low Lm_pos)
  have HY := Lib.hid (hy.low Lm_pos)
  have HSX := Lib.hid hsx
  clear hx hy hl hsx
  go_enter Tryz.func27, Tryz.ntmps27
  go_wp2_with fail
  generalize hW0 : (w.alloc (.cells #[.bool sx, .slice P n1 c1, .slice Q n2 c2] 43)).alloc (.cells #[.slice none 0 0, .slice none 0 0] 26) = W0 at F b2 ⊢
  clear hW0
  have p := full_t W0 (.slice none 0 0) (.slice P n1 c1) (.slice Q n2 c2) [] x L (Sl.nil Im (fun _ => True) W0) (HX.out.fr F) (HY.out.fr F) HL.out hL1 hL (by decide)
  rw [← HSX.out] at p
  rw [show mayS [] = 0 by decide] at p
  have PP := Lib.hid p
  clear p
  refine PP.out.mono ?_
  rintro e W1 ⟨v1, v2, rfl, -, hk, hf⟩
  obtain ⟨o1, o2⟩ := hk rfl
  obtain ⟨B1, m1, k1, rfl⟩ := o1.form
  obtain ⟨B2, m2, k2, rfl⟩ := o2.form
  rw [show List.replicate (cntS []).toNat (normR x) = [normR x] from rfl] at o2
  have lw := b2.lt
  replace b2 := b2.keep hf
  replace F := fr_then F hf
  clear hk PP hf
  go_wp2_with ((with_reducible apply wpList_st2); rfl; rfl; exact b2.alloc _; exact ten2; rfl; rfl; intro w9 B9 F9)
  refine bodyPost_ret (results_cell2 rfl rfl B9 Tryz.underlying26 ten2) rfl ?_
  have al := fun R => (Fr.refl R W1).alloc (.cells #[.slice B1 m1 k1, .slice B2 m2 k2] 26)
  exact ⟨_, _, rfl, ((o1.fr (al _)).past F9 fun k hk => by omega).mono fun k hk => by omega, ((o2.fr (al _)).past F9 fun k hk => by omega).mono fun k hk => by omega, (F.alloc _).comp F9 fun k _ hk => ⟨hk, by omega⟩⟩
end Go.Proofs.YtjnojkfkhccgaaaGreat

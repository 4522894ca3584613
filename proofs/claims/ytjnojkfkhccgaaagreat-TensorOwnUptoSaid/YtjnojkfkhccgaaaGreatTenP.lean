import Derived.Test.YtjnojkfkhccgaaaGreatTenO

/- tensor.Bits. -/
namespace Go.Proofs.YtjnojkfkhccgaaaGreat
open Go.RowKit Go.Shelf
attribute [local go_sem] Oper.semAt_some

/-- The bits of an element. -/
def eb (es : List RatL) (i : Nat) : Nat := max (blen (qOf (es.getD i zR)).num.natAbs) (blen (qOf (es.getD i zR)).den)
/-- The greatest of some. -/
def bm (es : List RatL) (pre : List Nat) : Nat := pre.foldl (fun n i => max n (eb es i)) 0
theorem bm_step (es : List RatL) (pre : List Nat) (x : Nat) : bm es (pre ++ [x]) = max (bm es pre) (eb es x) := by simp [bm]
def bitsT (es : List RatL) : Nat := bm es (List.range es.length)

def BitsI (es : List RatL) (b n m : Nat) (w : World) (pre : List Nat) (W : World) : Prop := Box W b 3 (.int .i64 (bm es pre : Nat)) ∧ Fr (fun k => k < n) w W
theorem BitsI.own {es : List RatL} {b n m : Nat} {w : World} (hn : n ≤ m) : OwnFrom m (fun pre W => BitsI es b n m w pre W) := fun pre W W' row hs hg hr =>
  ⟨grown_cells hg hr hs.1, hs.2.comp (Fr.of_grown hg) fun k _ hk => ⟨hk, fun e => by have := (hr k e.symm).1; omega⟩⟩

set_option maxRecDepth 100000 in
set_option maxHeartbeats 4000000 in
theorem bits_t {S T : Nat → Prop} (w : World) (vs ve : Value) (sh : List Int) (es : List RatL) (L : Nat) (hs : Sl Im S w vs sh) (he : Sl Rm T w ve es) (hL : ∀ x ∈ es, x.2.1.length ≤ L ∧ x.2.2.length ≤ L) (hL1 : 1 ≤ L) (hl : L ≤ 104857600) :
    Calls Tryz.prog 40 #[.agg #[vs, ve]] w fun e w' => e = .returned (.int .i64 (bitsT es : Nat)) ∧ Fr (fun k => k < w.heap.size) w w' := by
  obtain ⟨A, c, rfl, _, _, hlx⟩ := hs.slice
  obtain ⟨A', c', rfl, _, _, hly⟩ := he.slice
  have F0 := fun R => ((Fr.refl R w).alloc (.cells #[.slice A sh.length c, .slice A' es.length c'] 26)).alloc (.cells #[.int .i64 0] 3)
  have he0 := he.up Rm_pos (Nat.le_refl _) (F0 _)
  have hb0 := (Box2.new w 26 (.slice A sh.length c) (.slice A' es.length c')).alloc (.cells #[.int .i64 0] 3)
  have hr0 := Box.new (w.alloc (.cells #[.slice A sh.length c, .slice A' es.length c'] 26)) 3 (.int .i64 0)
  simp only [World.size_alloc] at hr0
  replace F0 := F0 (fun k => k < w.heap.size)
  clear hs he
  refine (callsIn_wide (n := 3)).1 ?_
  refine callsIn_of_wp_marks Tryz.func40 rfl trivial ?_ rfl
  simp only [Tryz.ntmps40, List.size_toArray, List.length_cons, List.length_nil, Nat.reduceAdd, Nat.reduceSub, Array.replicate_succ, Array.replicate_zero, List.push_toArray, List.append_toArray, List.nil_append, List.cons_append]
  gi_wp2_with fail
  refine ⟨trivial, ?_⟩
  refine (callsIn_wide.2 (of_t _ _ _ _ _ _ _)).mono ?_
  rintro e w2 ⟨rfl, hf2⟩
  gi_wp2_with fail
  refine ⟨trivial, ?_⟩
  refine (callsIn_wide.2 (all_t _ _ _ _ _ _ _)).mono ?_
  rintro e w3 ⟨rfl, hbx, hf3⟩
  gi_wp2_with fail
  have s2 := hf2.size
  have s3 := hf3.size
  simp only [World.size_alloc] at s2
  have he2 := (he0.keep' Rm_pos hf2).keep' Rm_pos hf3
  have hr1 := hr0.fr hf2 hr0.lt
  have hr2 := hr1.fr hf3 hr1.lt
  have F2 := fr_then (fr_then F0 hf2) hf3
  obtain ⟨E, hE1, hE2⟩ := Rm_all he2
  have hbl := hbx.lt
  clear he0 hb0 hr0 hr1 F0 hf2 hf3 he2
  refine wpIn_rangeFunc_ownH (F := Fence.wide) rfl (by omega) (gf := 69) (lb := #[.pointer (some ⟨w2.heap.size, 0, none⟩)]) rfl trivial (enter_of Tryz.func69 (by decide) rfl)
    (all_stops (fun k => k < w.heap.size ∨ k = w2.heap.size) w3 w2.heap.size es.length A' c' _ E hly hbx (fun j hj => (hE1 j hj).mono fun k hk => ⟨.inl hk, by omega⟩)) frK_t (frK_b (by intro k hk; rcases hk with hk | rfl <;> omega)) (Below.refl _ _) (fun _ => rfl)
    (BitsI es (w.heap.size + 1) w.heap.size w3.heap.size w3) (fun _ _ _ => False)
    (BitsI.own (by omega)) (fun cc => fun _ _ _ _ h _ _ => h)
    ⟨hr2, Fr.refl _ _⟩
    (VarX w3.heap.size E (fun x p => { tmps := #[.agg #[.slice A sh.length c, .slice A' es.length c'], .pointer (some ⟨w.heap.size, 0, none⟩), .pointer (some ⟨w.heap.size + 1, 0, none⟩), undef, p, .agg #[.slice A sh.length c, .slice A' es.length c'], .agg #[.slice A sh.length c, .slice A' es.length c'], .func (.func 69) #[] #[.pointer (some ⟨w2.heap.size, 0, none⟩)], .int .i64 x, E x, undef, undef, undef, undef, undef], defers := [] })) (fun x a => VarX.own _ _ _ _ x a) ?assign ?body ?done ?stop
  case assign =>
    intro l pre x W K hI hK
    obtain ⟨P, n, d, Q, m, o, hEx, g1, g2⟩ := hE2 x
    generalize (es.getD x zR).1 = sx at hEx
    have HK := Lib.hid hK
    have al := fun R => (Fr.refl R W).alloc (.cells #[.bool sx, .slice P n d, .slice Q m o] 43)
    have HI := Lib.hid (show BitsI es (w.heap.size + 1) w.heap.size w3.heap.size w3 pre (W.alloc (.cells #[.bool sx, .slice P n d, .slice Q m o] 43)) from ⟨hI.1.alloc _, hI.2.alloc _⟩)
    have hsz := hI.2.size
    clear hK g1 g2 hI al
    gi_wp2
    exact HK.out _ _ (keeps_alloc _ _ _) ((Fr.refl _ _).alloc _) HI.out ⟨W.heap.size, _, P, n, d, Q, m, o, by simp only [hEx], hsz, hEx, Box3.new _ _ _ _ _⟩
  case body =>
    rintro l pre x a' W hl' - ⟨i1, i3⟩ ⟨b, s, P, n, d, Q, m, o, rfl, hb, hEx, hx3⟩ -
    obtain ⟨P', n', d', Q', m', o', hEx', r1, r2⟩ := (hE2 x).fr i3
    have hlen := getD_len hL x
    obtain ⟨y, hy⟩ : ∃ y, y = es.getD x zR := ⟨_, rfl⟩
    rw [← hy] at hEx' r1 r2 hlen
    rw [hEx'] at hEx
    injection hEx with hEx
    injection hEx with hEx
    injection hEx with e1 hEx
    injection hEx with e2 hEx
    injection hEx with e3 hEx
    injection e1 with e1
    injection e2 with e4 e5 e6
    injection e3 with e7 e8 e9
    subst e1 e4 e5 e6 e7 e8 e9
    have sW := i3.size
    have D := fun R => (Fr.refl R W).drew
    have i1' := i1.fr (D (fun _ => True)) trivial
    have hx' := hx3.fr (D (fun _ => True)) trivial
    have p := rbits_n W.drew y.1 (.slice P' n' d') (.slice Q' m' o') (qOf y) _ _ L ⟨⟨y.2.1, r1.fr (D _), rfl, hlen.1⟩, ⟨y.2.2, r2.fr (D _), rfl, hlen.2⟩, rfl⟩ hL1 (by omega)
    obtain ⟨z, hz⟩ : ∃ z : Nat, z = eb es x := ⟨_, rfl⟩
    have hzz : max (blen (qOf y).num.natAbs : Int) (blen (qOf y).den : Int) = (z : Int) := by rw [hz, eb, ← hy]; omega
    rw [hzz] at p
    obtain ⟨t, ht⟩ : ∃ t : Nat, t = bm es pre := ⟨_, rfl⟩
    have hmx : max (t : Int) (z : Int) = ((bm es (pre ++ [x]) : Nat) : Int) := by rw [bm_step, ← ht, ← hz]; omega
    rw [← ht] at i1'
    obtain ⟨u, hu⟩ : ∃ u : Nat, u = bm es (pre ++ [x]) := ⟨_, rfl⟩
    rw [← hu] at hmx
    have HU := Lib.hid hu
    generalize y.1 = sy at hx' p hEx'
    have PP := Lib.hid p
    have lb := hx3.lt
    have l1 := i1.lt
    have KS : ∀ u, Fr (fun k => k < W.heap.size) W.drew u → u.cell? ⟨w.heap.size + 1, 0, none⟩ = some (.int .i64 (t : Int)) ∧ u.cell? ⟨b, 0, none⟩ = some (.bool sy) ∧ u.cell? ⟨b, 1, none⟩ = some (.slice P' n' d') ∧ u.cell? ⟨b, 2, none⟩ = some (.slice Q' m' o') := fun u hu =>
      ⟨(i1'.fr hu l1).cell, (hx'.fr hu lb).c0, (hx'.fr hu lb).c1, (hx'.fr hu lb).c2⟩
    have S0 := KS _ (Fr.refl _ _)
    clear p r1 r2 hlen hy hEx' hx3 hz hzz ht hu
    gi_wp2_with fail
    refine wpTill.beginIn (fun u => u.cell? ⟨w.heap.size + 1, 0, none⟩ = some (.int .i64 (t : Int)) ∧ u.cell? ⟨b, 0, none⟩ = some (.bool sy) ∧ u.cell? ⟨b, 1, none⟩ = some (.slice P' n' d') ∧ u.cell? ⟨b, 2, none⟩ = some (.slice Q' m' o')) 4 (by kernel_rfl) (by kernel_rfl) out_none ?_
    change wpTill _ _ _ _ _ _ 5 _ _ _
    refine wpTill.take 0 (.int .i64 (t : Int)) rfl (by kernel_rfl) (by kernel_rfl) (fun _ _ _ h => h) S0 (by rfl) (fun u hu => by go_simp) ?_
    try simp only [Act.put, List.setIfInBounds_toArray, List.set_cons_zero, List.set_cons_succ]
    refine wpTill.take 1 (.agg #[.bool sy, .slice P' n' d', .slice Q' m' o']) rfl (by kernel_rfl) (by kernel_rfl) (fun _ _ _ h => h) S0 (by rfl) (fun u hu => by go_simp) ?_
    try simp only [Act.put, List.setIfInBounds_toArray, List.set_cons_zero, List.set_cons_succ]
    refine wpTill.next 2 rfl (by kernel_rfl) (by rfl) (fun K hK => ?_)
    go_simp
    with_reducible refine PP.out.mono ?_
    rintro e u1 ⟨rfl, hf⟩
    have G1 : Fr (fun k => k < W.heap.size) W.drew u1 := hf
    refine hK _ _ (fun _ => KS _ G1) ?_
    clear hK K
    try simp only [Act.put, List.setIfInBounds_toArray, List.set_cons_zero, List.set_cons_succ]
    refine wpTill.next 3 rfl (by kernel_rfl) (by rfl) (fun K hK => ?_)
    go_simp
    refine hK _ _ (fun _ => KS _ G1) ?_
    clear hK K
    try simp only [Act.put, List.setIfInBounds_toArray, List.set_cons_zero, List.set_cons_succ]
    have j1 := i1'.fr G1 l1
    have e0 := j1.cell
    have e1 := j1.free
    clear S0 PP
    refine wpTill.next 4 rfl (by kernel_rfl) (by rfl) (fun K hK => ?_)
    go_simp
    refine hK _ _ (no_wait (by kernel_rfl)) ?_
    clear hK K
    try simp only [Act.put, List.setIfInBounds_toArray, List.set_cons_zero, List.set_cons_succ]
    refine wpTill.done (by kernel_rfl) ?_
    have F9 := (Fr.refl (fun k => k ≠ w.heap.size + 1) u1).setBox (p := w.heap.size + 1) (fun _ h => h rfl) (.int .i64 (u : Nat))
    have j2 := j1.set (.int .i64 (u : Nat))
    clear e0 e1
    gi_wp2_with fail
    refine ⟨(((KeepsOthers.drew W).from _).trans (keeps_fr _ hf)).trans (keeps_cell _ _ _ _), ((D _).trans (hf.mono fun k hk _ => hk)).comp F9 fun k _ hk => ⟨hk, by omega⟩, by rw [← HU.out]; exact j2, ((i3.trans (D _)).comp hf (R := fun k => k < w.heap.size) fun k _ hk => ⟨hk, by have : W.drew.heap.size = W.heap.size := rfl; omega⟩).comp F9 fun k _ hk => ⟨hk, by omega⟩⟩
  case done =>
    rintro D ys W hD rfl ⟨hbr, hF⟩ hK
    have cr := hbr.cell
    have fr := hbr.free
    have hbs := hbr.set (.int .i64 (bm es (List.range es.length) : Nat))
    have F3 := (F2.trans hF).setBox (p := w.heap.size + 1) (fun _ h => by omega) (.int .i64 (bm es (List.range es.length) : Nat))
    gi_wp2
    have hK' := (KeepsOthers.setCell W ⟨w.heap.size + 1, 0, none⟩ (.int .i64 (bm es (List.range es.length) : Nat))).same D _ hK rfl
    have hc5 := cell_kept hbs.cell (grownBy_putObj' _ D (.deferred none)) (fun r e => by cases e; exact ⟨_, hK', rfl⟩)
    exact leaves_mark hK' rfl (v := .int .i64 (bm es (List.range es.length) : Nat)) (by simp [results, Tryz.f40, go_sem, hc5]) ⟨rfl, F3.comp (Fr.of_grown (grownBy_putObj' _ D (.deferred none))) fun k hk hk' => ⟨hk', fun e => by cases e; omega⟩⟩ rfl
  case stop => rintro D cc pre W hD hpre h hK; exact h.elim
end Go.Proofs.YtjnojkfkhccgaaaGreat

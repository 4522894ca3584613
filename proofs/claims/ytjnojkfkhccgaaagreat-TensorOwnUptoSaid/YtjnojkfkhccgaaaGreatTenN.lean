import Derived.Test.YtjnojkfkhccgaaaGreatTenM

/- grid.turned, by rat.Norm. -/
namespace Go.Proofs.YtjnojkfkhccgaaaGreat
open Go.RowKit Go.Shelf
attribute [local go_sem] Oper.semAt_some

/-- A number in its one form, of whatever form. -/
def normR (x : RatL) : RatL := canR (qOf x)
def nrm (es : List RatL) (i : Nat) : RatL := normR (es.getD i zR)
theorem nrm_all (es : List RatL) : (List.range es.length).map (nrm es) = es.map normR := by
  refine List.ext_getElem (by simp) fun i h1 h2 => ?_
  have hi : i < es.length := by simpa using h2
  simp [nrm, List.getD_eq_getElem?_getD, List.getElem?_eq_getElem hi]

/-- What lies in memory while each is turned. -/
def TurnI (es : List RatL) (b5 n : Nat) (s : Value) (w : World) (pre : List Nat) (W : World) : Prop :=
  ∃ v2, Box2 W b5 69 s v2 ∧ Own Rm 43 (fun k => n ≤ k) W v2 (pre.map (nrm es)) ∧ Fr (fun k => k < n ∧ k ≠ b5) w W
theorem TurnI.own {es : List RatL} {b5 n : Nat} {s : Value} {w : World} (hb : b5 < n) : OwnFrom n (fun pre W => TurnI es b5 n s w pre W) := fun pre W W' row hs hg hr => by
  obtain ⟨v2, h1, h2, h3⟩ := hs
  exact ⟨v2, grown_cells hg hr h1, h2.turn (fun _ _ _ => Rm_cl) hg hr, h3.comp (Fr.of_grown hg) fun k _ hk => ⟨hk, fun e => by have := (hr k e.symm).1; omega⟩⟩
theorem out_none {α : Type} {B : Nat} {Kp : World → World → Prop} {I : List α → World → Prop} {Ix : Code → List α → World → Prop} {xs : List α} {W : World} {id : Nat} : ¬ LetsOut (Exit.inBlock id (ownPostG B Kp I Ix xs W)) := by
  rintro ⟨a, w, h⟩
  exact h

/-- A loop's variable of three cells, laid behind the row that grows. -/
def VarZ (b5 : Nat) (t : TypeId) (s0 : Value) (B : Nat) (E : Nat → Value) (T : Nat → Value → Act) (x : Nat) (a : Act) (W : World) : Prop :=
  ∃ b s P n c Q m k v2, a = T x (.pointer (some ⟨b, 0, none⟩)) ∧ B ≤ b ∧ E x = .agg #[.bool s, .slice P n c, .slice Q m k] ∧ Box3 W b 43 (.bool s) (.slice P n c) (.slice Q m k) ∧ Box2 W b5 t s0 v2 ∧ ∀ g, v2.ownBlock = some g → g < b
theorem VarZ.own (b5 : Nat) (t : TypeId) (s0 : Value) (B C : Nat) (E : Nat → Value) (T : Nat → Value → Act) (x : Nat) (a : Act) : OwnFrom C (fun (_ : Unit) W => VarZ b5 t s0 B E T x a W) := fun _ W W' row hs hg hr => by
  obtain ⟨b, s, P, n, c, Q, m, k, v2, e, hb, hE, hx, h2, h3⟩ := hs
  exact ⟨b, s, P, n, c, Q, m, k, v2, e, hb, hE, grown_cells hg hr hx, grown_cells hg hr h2, h3⟩
theorem Box2.same {w : World} {b : Nat} {t : TypeId} {x y x' y' : Value} (h : Box2 w b t x y) (h' : Box2 w b t x' y') : y = y' := by
  have := h.symm.trans h'
  injection this with this
  injection this with this
  injection this with this
  injection this with _ this
  injection this

set_option maxRecDepth 100000 in
set_option maxHeartbeats 8000000 in
theorem turned_t {S T : Nat → Prop} (w : World) (vs ve : Value) (sh : List Int) (es : List RatL) (L : Nat) (hs : Sl Im S w vs sh) (he : Sl Rm T w ve es) (hL : ∀ x ∈ es, x.2.1.length ≤ L ∧ x.2.2.length ≤ L) (hL1 : 1 ≤ L) (hl : L ≤ 104857600) (hsl : sh.length ≤ 1099511627000) (hel : es.length ≤ 1099511627000) :
    Calls Tryz.prog 35 #[.agg #[vs, ve], .func (.func 36) #[] #[]] w fun e w' => ∃ v1 v2, e = .returned (.agg #[v1, v2]) ∧ Own Im 3 (fun k => w.heap.size ≤ k) w' v1 sh ∧ Own Rm 43 (fun k => w.heap.size ≤ k) w' v2 (es.map normR) ∧ Fr (fun k => k < w.heap.size) w w' := by
  obtain ⟨A, c, rfl, _, _, hlx⟩ := hs.slice
  obtain ⟨A', c', rfl, _, _, hly⟩ := he.slice
  have F0 := fun R => (((Fr.refl R w).alloc (.cells #[.slice A sh.length c, .slice A' es.length c'] 69)).alloc (.cells #[.func (.func 36) #[] #[]] 60)).alloc (.cells #[.slice none 0 0, .slice none 0 0] 69)
  have hs0 := hs.up Im_pos (Nat.le_refl _) (F0 _)
  have he0 := he.up Rm_pos (Nat.le_refl _) (F0 _)
  have hb0 := ((Box2.new w 69 (.slice A sh.length c) (.slice A' es.length c')).alloc (.cells #[.func (.func 36) #[] #[]] 60)).alloc (.cells #[.slice none 0 0, .slice none 0 0] 69)
  have hf0 := (Box.new (w.alloc (.cells #[.slice A sh.length c, .slice A' es.length c'] 69)) 60 (.func (.func 36) #[] #[])).alloc (.cells #[.slice none 0 0, .slice none 0 0] 69)
  have hr0 := Box2.new ((w.alloc (.cells #[.slice A sh.length c, .slice A' es.length c'] 69)).alloc (.cells #[.func (.func 36) #[] #[]] 60)) 69 (.slice none 0 0) (.slice none 0 0)
  simp only [World.size_alloc] at hf0 hr0
  replace F0 := F0 (fun k => k < w.heap.size)
  refine (callsIn_wide (n := 3)).1 ?_
  refine callsIn_of_wp_marks Tryz.func35 rfl trivial ?_ rfl
  simp only [Tryz.ntmps35, List.size_toArray, List.length_cons, List.length_nil, Nat.reduceAdd, Nat.reduceSub, Array.replicate_succ, Array.replicate_zero, List.push_toArray, List.append_toArray, List.nil_append, List.cons_append]
  gi_wp2_with fail
  refine ⟨trivial, ?_⟩
  with_reducible refine (callsIn_wide.2 (sclone_calls _ (.slice A sh.length c) sh hs0 hsl)).mono ?_
  rintro e w1 ⟨v1, rfl, ho1, hf1⟩
  obtain ⟨A1, n1, c1, rfl⟩ := ho1.form
  have he1 := he0.keep' Rm_pos hf1
  have hb1 := hb0.keep hf1
  have hfn1 := hf0.fr hf1 hf0.lt
  have hr1 := hr0.keep hf1
  have F1 := fr_then F0 hf1
  have s1 : w.heap.size + 3 ≤ w1.heap.size := by
    have := hf1.size
    simp only [World.size_alloc] at this
    omega
  have ho1' := ho1.bd.mono (T := fun k => w.heap.size + 3 ≤ k ∧ k < w1.heap.size) fun k hk => by
    have := hk.1
    simp only [World.size_alloc] at this
    exact ⟨by omega, hk.2⟩
  clear ho1 hs0 he0 hb0 hf0 hr0 hf1 F0
  have al := fun R => (Fr.refl R w1).alloc (.cells #[.slice A1 n1 c1, .slice none 0 0] 69)
  have b5 := Box2.new w1 69 (.slice A1 n1 c1) (.slice none 0 0)
  have he2 := he1.keep' Rm_pos (al _)
  have hb2 := hb1.alloc (.cells #[.slice A1 n1 c1, .slice none 0 0] 69)
  have hfn2 := hfn1.alloc (.cells #[.slice A1 n1 c1, .slice none 0 0] 69)
  have hr2 := hr1.alloc (.cells #[.slice A1 n1 c1, .slice none 0 0] 69)
  have ho2 := ho1'.fr (al _)
  have F2 := F1.alloc (.cells #[.slice A1 n1 c1, .slice none 0 0] 69)
  have c0 := hb2.c0
  have c1' := hb2.c1
  clear al he1 hb1 hfn1 hr1 ho1' F1
  gi_wp2_with fail
  refine ⟨trivial, ?_⟩
  with_reducible refine (callsIn_wide.2 (all_t _ _ _ _ _ _ _)).mono ?_
  rintro e w3 ⟨rfl, hbx, hf3⟩
  have s3 := hf3.size
  simp only [World.size_alloc] at s3 hbx
  have he3 := he2.keep' Rm_pos hf3
  have hfn3 := hfn2.fr hf3 hfn2.lt
  have hr3 := hr2.keep hf3
  have ho3 := ho2.keep' hf3
  have b53 := b5.keep hf3
  have F3 := fr_then F2 hf3
  obtain ⟨E, hE1, hE2⟩ := Rm_all he3
  have hbl := hbx.lt
  clear he2 hfn2 hr2 ho2 b5 F2 hf3 c0 c1' hb2 he3
  gi_wp2_with fail
  have sb5 : w1.heap.size < w3.heap.size := by omega
  refine wpIn_rangeFunc_ownH (F := Fence.wide) rfl (by omega) (gf := 69) (lb := #[.pointer (some ⟨w1.heap.size + 1, 0, none⟩)]) rfl trivial (enter_of Tryz.func69 (by decide) rfl)
    (all_stops (fun k => k < w3.heap.size ∧ k ≠ w1.heap.size) w3 (w1.heap.size + 1) es.length A' c' _ E hly hbx (fun j hj => (hE1 j hj).mono fun k hk => ⟨⟨by omega, by omega⟩, by omega⟩)) frK_t (frK_b (by intro k hk; exact hk.1)) (Below.refl _ _) (fun _ => rfl)
    (TurnI es w1.heap.size w3.heap.size (.slice A1 n1 c1) w3) (fun _ _ _ => False)
    (TurnI.own sb5) (fun cc => fun _ _ _ _ h _ _ => h)
    ⟨_, b53, Own.nil _ _ _ _, Fr.refl _ _⟩
    (VarZ w1.heap.size 69 (.slice A1 n1 c1) w3.heap.size E (fun x p => { tmps := #[.agg #[.slice A sh.length c, .slice A' es.length c'], .func (.func 36) #[] #[], .pointer (some ⟨w.heap.size, 0, none⟩), .pointer (some ⟨w.heap.size + 1, 0, none⟩), .pointer (some ⟨w.heap.size + 1 + 1, 0, none⟩), .pointer (some ⟨w1.heap.size, 0, none⟩), undef, p, .pointer (some ⟨w.heap.size, 0, none⟩), .slice A sh.length c, .slice A1 n1 c1, .agg #[.slice A1 n1 c1, .slice none 0 0], .agg #[.slice A sh.length c, .slice A' es.length c'], .func (.func 69) #[] #[.pointer (some ⟨w1.heap.size + 1, 0, none⟩)], .int .i64 x, E x, undef, undef, undef, undef, undef, undef, undef, undef, undef], defers := [] })) (fun x a => VarZ.own _ _ _ _ _ _ _ x a) ?assign ?body ?done ?stop
  case assign =>
    intro l pre x W K hI hK
    obtain ⟨P, n, d, Q, m, o, hEx, g1, g2⟩ := hE2 x
    generalize (es.getD x zR).1 = sx at hEx
    have HK := Lib.hid hK
    obtain ⟨v2, i1, i2, i3⟩ := hI
    have al := fun R => (Fr.refl R W).alloc (.cells #[.bool sx, .slice P n d, .slice Q m o] 43)
    have HI := Lib.hid (show TurnI es w1.heap.size w3.heap.size (.slice A1 n1 c1) w3 pre (W.alloc (.cells #[.bool sx, .slice P n d, .slice Q m o] 43)) from ⟨v2, i1.alloc _, i2.fr (al _), i3.alloc _⟩)
    have HB := Lib.hid (And.intro (i1.alloc (.cells #[.bool sx, .slice P n d, .slice Q m o] 43)) i2.lt)
    have hsz := i3.size
    clear hK g1 g2 i1 i2 i3 al
    gi_wp2
    exact HK.out _ _ (keeps_alloc _ _ _) ((Fr.refl _ _).alloc _) HI.out ⟨W.heap.size, _, P, n, d, Q, m, o, v2, by simp only [hEx], hsz, hEx, Box3.new _ _ _ _ _, HB.out.1, HB.out.2⟩
  case body =>
    rintro l pre x a' W hl' - ⟨v2, i1, o2, i3⟩ ⟨b, s, P, n, d, Q, m, o, v2', rfl, hb, hEx, hx3, i1x, hlt2⟩ hpre
    obtain rfl := i1.same i1x
    obtain ⟨A2, n2, c2, rfl⟩ := o2.form
    obtain ⟨P', n', d', Q', m', o', hEx', r1, r2⟩ := (hE2 x).fr (i3.mono fun k _ hk => ⟨by omega, by omega⟩)
    have hlen := getD_len hL x
    obtain ⟨y, hy⟩ : ∃ y, y = es.getD x zR := ⟨_, rfl⟩
    rw [← hy] at hEx' r1 r2 hlen
    rw [hEx'] at hEx
    injection hEx with hEx
    injection hEx with hEx
    injection hEx with e1 hEx
    injection hEx with e2 hEx
    injection hEx with e3 hEx
    injection e1 with e1
    injection e2 with e4 e5 e6
    injection e3 with e7 e8 e9
    subst e1 e4 e5 e6 e7 e8 e9
    have HX := Lib.hid (show nrm es x = canR (qOf y) by rw [hy]; rfl)
    have hfn := hfn3.fr i3 ⟨by omega, by omega⟩
    have sW := i3.size
    have D := fun R => (Fr.refl R W).drew
    have i1' := i1.fr (D (fun _ => True)) trivial
    have o2' := o2.fr (D _)
    have hfn' := hfn.fr (D (fun _ => True)) trivial
    have hx' := hx3.fr (D (fun _ => True)) trivial
    have p := norm_n W.drew y.1 (.slice P' n' d') (.slice Q' m' o') (qOf y) _ _ L ⟨⟨y.2.1, r1.fr (D _), rfl, hlen.1⟩, ⟨y.2.2, r2.fr (D _), rfl, hlen.2⟩, rfl⟩ hL1 (by omega)
    generalize y.1 = sy at hx' p hEx'
    have PP := Lib.hid p
    have HLn := Lib.hid (show ((pre.map (nrm es)).length + 1) * 56 ≤ 140737488355328 ∧ (pre.map (nrm es)).length + 1 ≤ 9223372036854775807 by rw [List.length_map]; omega)
    have lb := hx3.lt
    have in2 := o2.in_
    have KS : ∀ u, Fr (fun k => k = w1.heap.size ∨ k = w.heap.size + 1 ∨ k = b) W.drew u → u.cell? ⟨w1.heap.size, 1, none⟩ = some (.slice A2 n2 c2) ∧ u.cell? ⟨w.heap.size + 1, 0, none⟩ = some (.func (.func 36) #[] #[]) ∧ u.cell? ⟨b, 0, none⟩ = some (.bool sy) ∧ u.cell? ⟨b, 1, none⟩ = some (.slice P' n' d') ∧ u.cell? ⟨b, 2, none⟩ = some (.slice Q' m' o') := fun u hu =>
      ⟨(i1'.fr hu (.inl rfl)).c1, (hfn'.fr hu (.inr (.inl rfl))).cell, (hx'.fr hu (.inr (.inr rfl))).c0, (hx'.fr hu (.inr (.inr rfl))).c1, (hx'.fr hu (.inr (.inr rfl))).c2⟩
    have S0 := KS _ (Fr.refl _ _)
    have lt2 := o2.lt
    have hWd : W.drew.heap.size = W.heap.size := rfl
    clear p r1 r2 hlen hy hEx' hx3 hfn' i1x
    gi_wp2_with fail
    refine wpTill.beginIn (fun u => u.cell? ⟨w1.heap.size, 1, none⟩ = some (.slice A2 n2 c2) ∧ u.cell? ⟨w.heap.size + 1, 0, none⟩ = some (.func (.func 36) #[] #[]) ∧ u.cell? ⟨b, 0, none⟩ = some (.bool sy) ∧ u.cell? ⟨b, 1, none⟩ = some (.slice P' n' d') ∧ u.cell? ⟨b, 2, none⟩ = some (.slice Q' m' o')) 7 (by kernel_rfl) (by kernel_rfl) out_none ?_
    change wpTill _ _ _ _ _ _ 9 _ _ _
    refine wpTill.take 0 (.pointer (some ⟨w1.heap.size, 1, none⟩)) rfl (by kernel_rfl) (by kernel_rfl) (fun _ _ _ h => h) S0 (by rfl) (fun u hu => by go_simp) ?_
    try simp only [Act.put, List.setIfInBounds_toArray, List.set_cons_zero, List.set_cons_succ]
    refine wpTill.take 1 (.slice A2 n2 c2) rfl (by kernel_rfl) (by kernel_rfl) (fun _ _ _ h => h) S0 (by rfl) (fun u hu => by go_simp) ?_
    try simp only [Act.put, List.setIfInBounds_toArray, List.set_cons_zero, List.set_cons_succ]
    refine wpTill.take 2 (.func (.func 36) #[] #[]) rfl (by kernel_rfl) (by kernel_rfl) (fun _ _ _ h => h) S0 (by rfl) (fun u hu => by go_simp) ?_
    try simp only [Act.put, List.setIfInBounds_toArray, List.set_cons_zero, List.set_cons_succ]
    refine wpTill.take 3 (.agg #[.bool sy, .slice P' n' d', .slice Q' m' o']) rfl (by kernel_rfl) (by kernel_rfl) (fun _ _ _ h => h) S0 (by rfl) (fun u hu => by go_simp) ?_
    try simp only [Act.put, List.setIfInBounds_toArray, List.set_cons_zero, List.set_cons_succ]
    refine wpTill.next 4 rfl (by kernel_rfl) (by rfl) (fun K hK => ?_)
    go_simp
    with_reducible refine PP.out.mono ?_
    rintro e u1 ⟨v3, v4, rfl, hol, hf⟩
    obtain ⟨⟨P3, i4, j4, rfl⟩, ⟨P4, i5, j5, rfl⟩⟩ := hol.form
    have G1 : Fr (fun k => k = w1.heap.size ∨ k = w.heap.size + 1 ∨ k = b) W.drew u1 := hf.mono fun k hk _ => hk
    refine hK _ _ (fun _ => KS _ G1) ?_
    clear hK K
    try simp only [Act.put, List.setIfInBounds_toArray, List.set_cons_zero, List.set_cons_succ]
    refine wpTill.next 5 rfl (by kernel_rfl) (by rfl) (fun K hK => ?_)
    go_simp
    refine hK _ _ (fun _ => KS _ (G1.alloc _)) ?_
    clear hK K
    try simp only [Act.put, List.setIfInBounds_toArray, List.set_cons_zero, List.set_cons_succ]
    have o3 := o2'.keep' hf
    clear S0 PP
    refine wpTill.next 6 rfl (by kernel_rfl) (by rfl) (fun K hK => ?_)
    refine oper_push1 rmT (v := .slice A2 n2 c2) (y := canR (qOf y)) (T := fun k => W.heap.size ≤ k) rfl rfl rfl o3 ⟨_, _, rfl, hol.num.sl, hol.den.sl⟩ (fun k hk _ => ⟨Nat.le_trans sW hk, fun e => by have := lt2 k e.symm; omega⟩) (fun k hk => by have := hf.size; omega) HLn.out.1 HLn.out.2 ?_
    intro v5 u2 ho hfr hat
    obtain ⟨A3, n3, c3, rfl⟩ := ho.form
    have G2 : Fr (fun k => k = w1.heap.size ∨ k = w.heap.size + 1 ∨ k = b) W.drew u2 := G1.comp hfr fun k _ hk => ⟨hk, fun e => by have h1 := in2 _ e.symm; have h2 := hlt2 _ e.symm; omega⟩
    refine hK _ _ (fun _ => KS _ G2) ?_
    clear hK K
    try simp only [Act.put, List.setIfInBounds_toArray, List.set_cons_zero, List.set_cons_succ]
    have j1 := i1'.fr G2 (.inl rfl)
    have G3 : Fr (fun k => k < w3.heap.size ∧ k ≠ w1.heap.size) W u2 := (D _).trans (hf.comp hfr fun k _ hk => ⟨by omega, fun e => by have h1 := in2 _ e.symm; omega⟩)
    have kp := keeps_push w3.heap.size o3 hfr
    have e0 := j1.c1
    have e1 := j1.free 1
    clear G1 G2 hfr hat o3
    refine wpTill.next 7 rfl (by kernel_rfl) (by rfl) (fun K hK => ?_)
    go_simp
    refine hK _ _ (no_wait (by kernel_rfl)) ?_
    clear hK K
    try simp only [Act.put, List.setIfInBounds_toArray, List.set_cons_zero, List.set_cons_succ]
    refine wpTill.next 8 rfl (by kernel_rfl) (by rfl) (fun K hK => ?_)
    go_simp
    refine hK _ _ (no_wait (by kernel_rfl)) ?_
    clear hK K
    try simp only [Act.put, List.setIfInBounds_toArray, List.set_cons_zero, List.set_cons_succ]
    refine wpTill.done (by kernel_rfl) ?_
    have F9 := fr_set1 u2 w1.heap.size 1 (.slice A3 n3 c3)
    clear e0 e1
    gi_wp2_with fail
    refine ⟨(((KeepsOthers.drew W).from _).trans ((keeps_fr _ hf).trans kp)).trans (keeps_cell _ _ _ _), G3.comp F9 fun k _ hk => ⟨hk, by omega⟩, ⟨_, j1.set1 _, ?_, (i3.trans G3).comp F9 fun k _ hk => ⟨hk, by omega⟩⟩⟩
    rw [List.map_append, List.map_singleton, HX.out]
    exact ho.past F9 (fun k hk => by omega)
  case done =>
    rintro D ys W hD rfl ⟨v2, i1, o2, i3⟩ hK
    rw [nrm_all] at o2
    obtain ⟨A2, n2, c2, rfl⟩ := o2.form
    have c0 := i1.c0
    have c1' := i1.c1
    have hr := hr3.fr i3 ⟨by omega, by omega⟩
    have o1 := ho3.fr (i3.mono fun k _ hk => ⟨by omega, by omega⟩)
    have F4 := F3.comp i3 (R := fun k => k < w.heap.size) fun k _ hk => ⟨hk, by omega, by omega⟩
    have d0 := hr.c0
    have d1 := hr.c1
    have f0 := hr.free 0
    have f1 := hr.free 1
    have bs := hr.set2 (.slice A1 n1 c1) (.slice A2 n2 c2)
    have F5 : Fr (fun k => k ≠ w.heap.size + 1 + 1) W ((W.setCell ⟨w.heap.size + 1 + 1, 0, none⟩ (.slice A1 n1 c1)).setCell ⟨w.heap.size + 1 + 1, 1, none⟩ (.slice A2 n2 c2)) := (fr_set1 _ _ _ _).trans (fr_set1 _ _ _ _)
    gi_wp2
    have hK2 := (KeepsOthers.setCell (W.setCell ⟨w.heap.size + 1 + 1, 0, none⟩ (.slice A1 n1 c1)) ⟨w.heap.size + 1 + 1, 1, none⟩ (.slice A2 n2 c2)).same D _ ((KeepsOthers.setCell W ⟨w.heap.size + 1 + 1, 0, none⟩ (.slice A1 n1 c1)).same D _ hK rfl) rfl
    have gr := grownBy_putObj' ((W.setCell ⟨w.heap.size + 1 + 1, 0, none⟩ (.slice A1 n1 c1)).setCell ⟨w.heap.size + 1 + 1, 1, none⟩ (.slice A2 n2 c2)) D (.deferred none)
    have hrw : ∀ r, some D = some r → 0 ≤ r ∧ ∃ o : Obj, ((W.setCell ⟨w.heap.size + 1 + 1, 0, none⟩ (.slice A1 n1 c1)).setCell ⟨w.heap.size + 1 + 1, 1, none⟩ (.slice A2 n2 c2)).heap[r]? = some o ∧ o.isCells = false := fun r e => by cases e; exact ⟨Nat.zero_le _, _, hK2, rfl⟩
    exact leaves_mark hK2 rfl (results_cell2 rfl rfl (grown_cells gr hrw bs) Tryz.underlying69 grid2)
      ⟨_, _, rfl, ((o1.past F5 fun k hk => by omega).turn (fun _ _ _ h => Kd.int_any h) gr hrw).mono fun k hk => by omega, ((o2.past F5 fun k hk => by omega).turn (fun _ _ _ => Rm_cl) gr hrw).mono fun k hk => by omega, (F4.comp F5 (R := fun k => k < w.heap.size) fun k _ hk => ⟨hk, by omega⟩).comp (Fr.of_grown gr) fun k hk hk' => ⟨hk', fun e => by cases e; omega⟩⟩ rfl
  case stop => rintro D cc pre W hD hpre h hK; exact h.elim
end Go.Proofs.YtjnojkfkhccgaaaGreat

/- Texts merged: OwnA, OwnB, OwnC, OwnD, OwnE, OwnF. -/
import Derived.Test.YtjnojkfkhccgaaaGreatFullD
import Derived.Test.YtjnojkfkhccgaaaGreatFacts

/- Rationals in memory whose limbs lie in blocks that are not frozen. -/
namespace Go.Proofs.YtjnojkfkhccgaaaGreat
open Go.RowKit

/-- Block k holds cells, none of them frozen. -/
def Fz (w : World) (k : Nat) : Prop := ∃ cs t, w.heap[k]? = some (.cells cs t (0, 0))
theorem Fz.fr {S : Nat → Prop} {w w' : World} {k : Nat} (h : Fz w k) (hf : Fr S w w') (hs : S k) : Fz w' k := by
  obtain ⟨cs, t, h⟩ := h
  exact ⟨cs, t, hf.obj h hs⟩
theorem Fz.free {w : World} {a : Addr} (h : Fz w a.block) : w.frozen? a = false := by
  obtain ⟨cs, t, h⟩ := h
  unfold World.frozen?
  simp [h]
theorem fz_fr {S : Nat → Prop} {w w' : World} {v : Value} {xs : List Nat} (h : Sl Lm (fun k => S k ∧ Fz w k) w v xs) (hf : Fr S w w') : Sl Lm (fun k => S k ∧ Fz w' k) w' v xs :=
  (h.fr (hf.mono fun _ _ hk => hk.1)).mono fun k hk => ⟨hk.1, hk.2.fr hf hk.1⟩
def RZ : Kd RatL where
  size := 3
  rd S w x cs := ∃ vn vd, cs = [.bool x.1, vn, vd] ∧ Sl Lm (fun k => S k ∧ Fz w k) w vn x.2.1 ∧ Sl Lm (fun k => S k ∧ Fz w k) w vd x.2.2
  len h := by obtain ⟨_, _, rfl, _⟩ := h; rfl
  one h u hu := by
    obtain ⟨vn, vd, rfl, hn, hd⟩ := h
    obtain ⟨A, n, c, rfl⟩ := hn.form
    obtain ⟨B, m, k, rfl⟩ := hd.form
    simp at hu
    rcases hu with rfl | rfl | rfl <;> rfl
  mono hs h := by obtain ⟨vn, vd, e, hn, hd⟩ := h; exact ⟨vn, vd, e, hn.mono fun k hk => ⟨hs k hk.1, hk.2⟩, hd.mono fun k hk => ⟨hs k hk.1, hk.2⟩⟩
  bd h := by obtain ⟨vn, vd, e, hn, hd⟩ := h; exact ⟨vn, vd, e, (hn.bd Lm_pos).mono fun k hk => ⟨⟨hk.1.1, hk.2⟩, hk.1.2⟩, (hd.bd Lm_pos).mono fun k hk => ⟨⟨hk.1.1, hk.2⟩, hk.1.2⟩⟩
  fr h hf := by obtain ⟨vn, vd, e, hn, hd⟩ := h; exact ⟨vn, vd, e, fz_fr hn hf, fz_fr hd hf⟩
theorem RZ_pos : 0 < RZ.size := by decide
theorem rzT : ElemT Tryz.prog RZ 24 43 56 := ElemT.mk' (.agg #[.bool false, .slice none 0 0, .slice none 0 0]) Tryz.underlying24 RZ_pos (by kernel_rfl) rfl
theorem RZ_rm {S : Nat → Prop} {w : World} {x : RatL} {cs : List Value} (h : RZ.rd S w x cs) : Rm.rd S w x cs := by
  obtain ⟨vn, vd, e, hn, hd⟩ := h
  exact ⟨vn, vd, e, hn.mono fun _ hk => hk.1, hd.mono fun _ hk => hk.1⟩
theorem RZ_cl {S : Nat → Prop} {w : World} {x : RatL} {cs : List Value} (h : RZ.rd S w x cs) : RZ.rd (fun k => S k ∧ Cl w k) w x cs := by
  obtain ⟨vn, vd, e, hn, hd⟩ := h
  exact ⟨vn, vd, e, (Lm_cl hn).mono fun _ hk => ⟨⟨hk.1.1, hk.2⟩, hk.1.2⟩, (Lm_cl hd).mono fun _ hk => ⟨⟨hk.1.1, hk.2⟩, hk.1.2⟩⟩
/-- A list of the call's own isn't frozen. -/
theorem Own.fz {α : Type} {K : Kd α} {e : TypeId} {S : Nat → Prop} {w : World} {v : Value} {xs : List α} (h : Own K e S w v xs) : ∀ g, v.ownBlock = some g → Fz w g := by
  obtain ⟨cells, h1, _, _⟩ := h
  intro g hg
  rcases h1.2 with ⟨rfl, _⟩ | ⟨g', cap, cur, rfl, _, hgg, _⟩
  · simp [Value.ownBlock] at hg
  · simp [Value.ownBlock] at hg
    subst hg
    exact ⟨_, _, hgg⟩
theorem Own.sl_fz {e : TypeId} {S : Nat → Prop} {w : World} {v : Value} {xs : List Nat} (h : Own Lm e S w v xs) : Sl Lm (fun k => S k ∧ Fz w k) w v xs := by
  obtain ⟨A, c, rfl, h1, h2, h3, h4⟩ := h.sl
  refine ⟨A, c, rfl, h1, h2, h3, fun hl => ?_⟩
  obtain ⟨ad, rfl, hS, hc⟩ := h4 hl
  exact ⟨ad, rfl, ⟨hS, h.fz _ rfl⟩, hc⟩
theorem Own.rm {e : TypeId} {S : Nat → Prop} {w : World} {v : Value} {xs : List RatL} (h : Own RZ e S w v xs) : Own Rm e S w v xs := by
  obtain ⟨cells, h1, h2, h3⟩ := h
  exact ⟨cells, h1, h2, fun i x hx => let ⟨cs, hr, hu⟩ := h3 i x hx; ⟨cs, RZ_rm hr, hu⟩⟩
end Go.Proofs.YtjnojkfkhccgaaaGreat


/- turned and Make once more: gen_own.py. -/
namespace Go.Proofs.YtjnojkfkhccgaaaGreat
open Go.RowKit Go.Shelf
attribute [local go_sem] Oper.semAt_some

/-- What lies in memory while each is turned. -/
def TurnIZ (es : List RatL) (b5 n : Nat) (s : Value) (w : World) (pre : List Nat) (W : World) : Prop :=
  ∃ v2, Box2 W b5 69 s v2 ∧ Own RZ 43 (fun k => n ≤ k) W v2 (pre.map (nrm es)) ∧ Fr (fun k => k < n ∧ k ≠ b5) w W
theorem TurnIZ.own {es : List RatL} {b5 n : Nat} {s : Value} {w : World} (hb : b5 < n) : OwnFrom n (fun pre W => TurnIZ es b5 n s w pre W) := fun pre W W' row hs hg hr => by
  obtain ⟨v2, h1, h2, h3⟩ := hs
  exact ⟨v2, grown_cells hg hr h1, h2.turn (fun _ _ _ => RZ_cl) hg hr, h3.comp (Fr.of_grown hg) fun k _ hk => ⟨hk, fun e => by have := (hr k e.symm).1; omega⟩⟩
set_option maxRecDepth 100000 in
set_option maxHeartbeats 8000000 in
theorem turnedZ_t {S T : Nat → Prop} (w : World) (vs ve : Value) (sh : List Int) (es : List RatL) (L : Nat) (hs : Sl Im S w vs sh) (he : Sl Rm T w ve es) (hL : ∀ x ∈ es, x.2.1.length ≤ L ∧ x.2.2.length ≤ L) (hL1 : 1 ≤ L) (hl : L ≤ 104857600) (hsl : sh.length ≤ 1099511627000) (hel : es.length ≤ 1099511627000) :
    Calls Tryz.prog 35 #[.agg #[vs, ve], .func (.func 36) #[] #[]] w fun e w' => ∃ v1 v2, e = .returned (.agg #[v1, v2]) ∧ Own Im 3 (fun k => w.heap.size ≤ k) w' v1 sh ∧ Own RZ 43 (fun k => w.heap.size ≤ k) w' v2 (es.map normR) ∧ Fr (fun k => k < w.heap.size) w w' := by
  obtain ⟨A, c, rfl, _, _, hlx⟩ := hs.slice
  obtain ⟨A', c', rfl, _, _, hly⟩ := he.slice
  have F0 := fun R => (((Fr.refl R w).alloc (.cells #[.slice A sh.length c, .slice A' es.length c'] 69)).alloc (.cells #[.func (.func 36) #[] #[]] 60)).alloc (.cells #[.slice none 0 0, .slice none 0 0] 69)
  have hs0 := hs.up Im_pos (Nat.le_refl _) (F0 _)
  have he0 := he.up Rm_pos (Nat.le_refl _) (F0 _)
  have hb0 := ((Box2.new w 69 (.slice A sh.length c) (.slice A' es.length c')).alloc (.cells #[.func (.func 36) #[] #[]] 60)).alloc (.cells #[.slice none 0 0, .slice none 0 0] 69)
  have hf0 := (Box.new (w.alloc (.cells #[.slice A sh.length c, .slice A' es.length c'] 69)) 60 (.func (.func 36) #[] #[])).alloc (.cells #[.slice none 0 0, .slice none 0 0] 69)
  have hr0 := Box2.new ((w.alloc (.cells #[.slice A sh.length c, .slice A' es.length c'] 69)).alloc (.cells #[.func (.func 36) #[] #[]] 60)) 69 (.slice none 0 0) (.slice none 0 0)
  simp only [World.size_alloc] at hf0 hr0
  replace F0 := F0 (fun k => k < w.heap.size)
  refine (callsIn_wide (n := 3)).1 ?_
  refine callsIn_of_wp_marks Tryz.func35 rfl trivial ?_ rfl
  simp only [Tryz.ntmps35, List.size_toArray, List.length_cons, List.length_nil, Nat.reduceAdd, Nat.reduceSub, Array.replicate_succ, Array.replicate_zero, List.push_toArray, List.append_toArray, List.nil_append, List.cons_append]
  gi_wp2_with fail
  refine ⟨trivial, ?_⟩
  with_reducible refine (callsIn_wide.2 (sclone_calls _ (.slice A sh.length c) sh hs0 hsl)).mono ?_
  rintro e w1 ⟨v1, rfl, ho1, hf1⟩
  obtain ⟨A1, n1, c1, rfl⟩ := ho1.form
  have he1 := he0.keep' Rm_pos hf1
  have hb1 := hb0.keep hf1
  have hfn1 := hf0.fr hf1 hf0.lt
  have hr1 := hr0.keep hf1
  have F1 := fr_then F0 hf1
  have s1 : w.heap.size + 3 ≤ w1.heap.size := by
    have := hf1.size
    simp only [World.size_alloc] at this
    omega
  have ho1' := ho1.bd.mono (T := fun k => w.heap.size + 3 ≤ k ∧ k < w1.heap.size) fun k hk => by
    have := hk.1
    simp only [World.size_alloc] at this
    exact ⟨by omega, hk.2⟩
  clear ho1 hs0 he0 hb0 hf0 hr0 hf1 F0
  have al := fun R => (Fr.refl R w1).alloc (.cells #[.slice A1 n1 c1, .slice none 0 0] 69)
  have b5 := Box2.new w1 69 (.slice A1 n1 c1) (.slice none 0 0)
  have he2 := he1.keep' Rm_pos (al _)
  have hb2 := hb1.alloc (.cells #[.slice A1 n1 c1, .slice none 0 0] 69)
  have hfn2 := hfn1.alloc (.cells #[.slice A1 n1 c1, .slice none 0 0] 69)
  have hr2 := hr1.alloc (.cells #[.slice A1 n1 c1, .slice none 0 0] 69)
  have ho2 := ho1'.fr (al _)
  have F2 := F1.alloc (.cells #[.slice A1 n1 c1, .slice none 0 0] 69)
  have c0 := hb2.c0
  have c1' := hb2.c1
  clear al he1 hb1 hfn1 hr1 ho1' F1
  gi_wp2_with fail
  refine ⟨trivial, ?_⟩
  with_reducible refine (callsIn_wide.2 (all_t _ _ _ _ _ _ _)).mono ?_
  rintro e w3 ⟨rfl, hbx, hf3⟩
  have s3 := hf3.size
  simp only [World.size_alloc] at s3 hbx
  have he3 := he2.keep' Rm_pos hf3
  have hfn3 := hfn2.fr hf3 hfn2.lt
  have hr3 := hr2.keep hf3
  have ho3 := ho2.keep' hf3
  have b53 := b5.keep hf3
  have F3 := fr_then F2 hf3
  obtain ⟨E, hE1, hE2⟩ := Rm_all he3
  have hbl := hbx.lt
  clear he2 hfn2 hr2 ho2 b5 F2 hf3 c0 c1' hb2 he3
  gi_wp2_with fail
  have sb5 : w1.heap.size < w3.heap.size := by omega
  refine wpIn_rangeFunc_ownH (F := Fence.wide) rfl (by omega) (gf := 69) (lb := #[.pointer (some ⟨w1.heap.size + 1, 0, none⟩)]) rfl trivial (enter_of Tryz.func69 (by decide) rfl)
    (all_stops (fun k => k < w3.heap.size ∧ k ≠ w1.heap.size) w3 (w1.heap.size + 1) es.length A' c' _ E hly hbx (fun j hj => (hE1 j hj).mono fun k hk => ⟨⟨by omega, by omega⟩, by omega⟩)) frK_t (frK_b (by intro k hk; exact hk.1)) (Below.refl _ _) (fun _ => rfl)
    (TurnIZ es w1.heap.size w3.heap.size (.slice A1 n1 c1) w3) (fun _ _ _ => False)
    (TurnIZ.own sb5) (fun cc => fun _ _ _ _ h _ _ => h)
    ⟨_, b53, Own.nil _ _ _ _, Fr.refl _ _⟩
    (VarZ w1.heap.size 69 (.slice A1 n1 c1) w3.heap.size E (fun x p => { tmps := #[.agg #[.slice A sh.length c, .slice A' es.length c'], .func (.func 36) #[] #[], .pointer (some ⟨w.heap.size, 0, none⟩), .pointer (some ⟨w.heap.size + 1, 0, none⟩), .pointer (some ⟨w.heap.size + 1 + 1, 0, none⟩), .pointer (some ⟨w1.heap.size, 0, none⟩), undef, p, .pointer (some ⟨w.heap.size, 0, none⟩), .slice A sh.length c, .slice A1 n1 c1, .agg #[.slice A1 n1 c1, .slice none 0 0], .agg #[.slice A sh.length c, .slice A' es.length c'], .func (.func 69) #[] #[.pointer (some ⟨w1.heap.size + 1, 0, none⟩)], .int .i64 x, E x, undef, undef, undef, undef, undef, undef, undef, undef, undef], defers := [] })) (fun x a => VarZ.own _ _ _ _ _ _ _ x a) ?assign ?body ?done ?stop
  case assign =>
    intro l pre x W K hI hK
    obtain ⟨P, n, d, Q, m, o, hEx, g1, g2⟩ := hE2 x
    generalize (es.getD x zR).1 = sx at hEx
    have HK := Lib.hid hK
    obtain ⟨v2, i1, i2, i3⟩ := hI
    have al := fun R => (Fr.refl R W).alloc (.cells #[.bool sx, .slice P n d, .slice Q m o] 43)
    have HI := Lib.hid (show TurnIZ es w1.heap.size w3.heap.size (.slice A1 n1 c1) w3 pre (W.alloc (.cells #[.bool sx, .slice P n d, .slice Q m o] 43)) from ⟨v2, i1.alloc _, i2.fr (al _), i3.alloc _⟩)
    have HB := Lib.hid (And.intro (i1.alloc (.cells #[.bool sx, .slice P n d, .slice Q m o] 43)) i2.lt)
    have hsz := i3.size
    clear hK g1 g2 i1 i2 i3 al
    gi_wp2
    exact HK.out _ _ (keeps_alloc _ _ _) ((Fr.refl _ _).alloc _) HI.out ⟨W.heap.size, _, P, n, d, Q, m, o, v2, by simp only [hEx], hsz, hEx, Box3.new _ _ _ _ _, HB.out.1, HB.out.2⟩
  case body =>
    rintro l pre x a' W hl' - ⟨v2, i1, o2, i3⟩ ⟨b, s, P, n, d, Q, m, o, v2', rfl, hb, hEx, hx3, i1x, hlt2⟩ hpre
    obtain rfl := i1.same i1x
    obtain ⟨A2, n2, c2, rfl⟩ := o2.form
    obtain ⟨P', n', d', Q', m', o', hEx', r1, r2⟩ := (hE2 x).fr (i3.mono fun k _ hk => ⟨by omega, by omega⟩)
    have hlen := getD_len hL x
    obtain ⟨y, hy⟩ : ∃ y, y = es.getD x zR := ⟨_, rfl⟩
    rw [← hy] at hEx' r1 r2 hlen
    rw [hEx'] at hEx
    injection hEx with hEx
    injection hEx with hEx
    injection hEx with e1 hEx
    injection hEx with e2 hEx
    injection hEx with e3 hEx
    injection e1 with e1
    injection e2 with e4 e5 e6
    injection e3 with e7 e8 e9
    subst e1 e4 e5 e6 e7 e8 e9
    have HX := Lib.hid (show nrm es x = canR (qOf y) by rw [hy]; rfl)
    have hfn := hfn3.fr i3 ⟨by omega, by omega⟩
    have sW := i3.size
    have D := fun R => (Fr.refl R W).drew
    have i1' := i1.fr (D (fun _ => True)) trivial
    have o2' := o2.fr (D _)
    have hfn' := hfn.fr (D (fun _ => True)) trivial
    have hx' := hx3.fr (D (fun _ => True)) trivial
    have p := norm_n W.drew y.1 (.slice P' n' d') (.slice Q' m' o') (qOf y) _ _ L ⟨⟨y.2.1, r1.fr (D _), rfl, hlen.1⟩, ⟨y.2.2, r2.fr (D _), rfl, hlen.2⟩, rfl⟩ hL1 (by omega)
    generalize y.1 = sy at hx' p hEx'
    have PP := Lib.hid p
    have HLn := Lib.hid (show ((pre.map (nrm es)).length + 1) * 56 ≤ 140737488355328 ∧ (pre.map (nrm es)).length + 1 ≤ 9223372036854775807 by rw [List.length_map]; omega)
    have lb := hx3.lt
    have in2 := o2.in_
    have KS : ∀ u, Fr (fun k => k = w1.heap.size ∨ k = w.heap.size + 1 ∨ k = b) W.drew u → u.cell? ⟨w1.heap.size, 1, none⟩ = some (.slice A2 n2 c2) ∧ u.cell? ⟨w.heap.size + 1, 0, none⟩ = some (.func (.func 36) #[] #[]) ∧ u.cell? ⟨b, 0, none⟩ = some (.bool sy) ∧ u.cell? ⟨b, 1, none⟩ = some (.slice P' n' d') ∧ u.cell? ⟨b, 2, none⟩ = some (.slice Q' m' o') := fun u hu =>
      ⟨(i1'.fr hu (.inl rfl)).c1, (hfn'.fr hu (.inr (.inl rfl))).cell, (hx'.fr hu (.inr (.inr rfl))).c0, (hx'.fr hu (.inr (.inr rfl))).c1, (hx'.fr hu (.inr (.inr rfl))).c2⟩
    have S0 := KS _ (Fr.refl _ _)
    have lt2 := o2.lt
    have hWd : W.drew.heap.size = W.heap.size := rfl
    clear p r1 r2 hlen hy hEx' hx3 hfn' i1x
    gi_wp2_with fail
    refine wpTill.beginIn (fun u => u.cell? ⟨w1.heap.size, 1, none⟩ = some (.slice A2 n2 c2) ∧ u.cell? ⟨w.heap.size + 1, 0, none⟩ = some (.func (.func 36) #[] #[]) ∧ u.cell? ⟨b, 0, none⟩ = some (.bool sy) ∧ u.cell? ⟨b, 1, none⟩ = some (.slice P' n' d') ∧ u.cell? ⟨b, 2, none⟩ = some (.slice Q' m' o')) 7 (by kernel_rfl) (by kernel_rfl) out_none ?_
    change wpTill _ _ _ _ _ _ 9 _ _ _
    refine wpTill.take 0 (.pointer (some ⟨w1.heap.size, 1, none⟩)) rfl (by kernel_rfl) (by kernel_rfl) (fun _ _ _ h => h) S0 (by rfl) (fun u hu => by go_simp) ?_
    try simp only [Act.put, List.setIfInBounds_toArray, List.set_cons_zero, List.set_cons_succ]
    refine wpTill.take 1 (.slice A2 n2 c2) rfl (by kernel_rfl) (by kernel_rfl) (fun _ _ _ h => h) S0 (by rfl) (fun u hu => by go_simp) ?_
    try simp only [Act.put, List.setIfInBounds_toArray, List.set_cons_zero, List.set_cons_succ]
    refine wpTill.take 2 (.func (.func 36) #[] #[]) rfl (by kernel_rfl) (by kernel_rfl) (fun _ _ _ h => h) S0 (by rfl) (fun u hu => by go_simp) ?_
    try simp only [Act.put, List.setIfInBounds_toArray, List.set_cons_zero, List.set_cons_succ]
    refine wpTill.take 3 (.agg #[.bool sy, .slice P' n' d', .slice Q' m' o']) rfl (by kernel_rfl) (by kernel_rfl) (fun _ _ _ h => h) S0 (by rfl) (fun u hu => by go_simp) ?_
    try simp only [Act.put, List.setIfInBounds_toArray, List.set_cons_zero, List.set_cons_succ]
    refine wpTill.next 4 rfl (by kernel_rfl) (by rfl) (fun K hK => ?_)
    go_simp
    with_reducible refine PP.out.mono ?_
    rintro e u1 ⟨v3, v4, rfl, hol, hf⟩
    obtain ⟨⟨P3, i4, j4, rfl⟩, ⟨P4, i5, j5, rfl⟩⟩ := hol.form
    have G1 : Fr (fun k => k = w1.heap.size ∨ k = w.heap.size + 1 ∨ k = b) W.drew u1 := hf.mono fun k hk _ => hk
    refine hK _ _ (fun _ => KS _ G1) ?_
    clear hK K
    try simp only [Act.put, List.setIfInBounds_toArray, List.set_cons_zero, List.set_cons_succ]
    refine wpTill.next 5 rfl (by kernel_rfl) (by rfl) (fun K hK => ?_)
    go_simp
    refine hK _ _ (fun _ => KS _ (G1.alloc _)) ?_
    clear hK K
    try simp only [Act.put, List.setIfInBounds_toArray, List.set_cons_zero, List.set_cons_succ]
    have o3 := o2'.keep' hf
    clear S0 PP
    refine wpTill.next 6 rfl (by kernel_rfl) (by rfl) (fun K hK => ?_)
    refine oper_push1 rzT (v := .slice A2 n2 c2) (y := canR (qOf y)) (T := fun k => W.heap.size ≤ k) rfl rfl rfl o3 ⟨_, _, rfl, hol.num.own.sl_fz, hol.den.own.sl_fz⟩ (fun k hk _ => ⟨Nat.le_trans sW hk, fun e => by have := lt2 k e.symm; omega⟩) (fun k hk => by have := hf.size; omega) HLn.out.1 HLn.out.2 ?_
    intro v5 u2 ho hfr hat
    obtain ⟨A3, n3, c3, rfl⟩ := ho.form
    have G2 : Fr (fun k => k = w1.heap.size ∨ k = w.heap.size + 1 ∨ k = b) W.drew u2 := G1.comp hfr fun k _ hk => ⟨hk, fun e => by have h1 := in2 _ e.symm; have h2 := hlt2 _ e.symm; omega⟩
    refine hK _ _ (fun _ => KS _ G2) ?_
    clear hK K
    try simp only [Act.put, List.setIfInBounds_toArray, List.set_cons_zero, List.set_cons_succ]
    have j1 := i1'.fr G2 (.inl rfl)
    have G3 : Fr (fun k => k < w3.heap.size ∧ k ≠ w1.heap.size) W u2 := (D _).trans (hf.comp hfr fun k _ hk => ⟨by omega, fun e => by have h1 := in2 _ e.symm; omega⟩)
    have kp := keeps_push w3.heap.size o3 hfr
    have e0 := j1.c1
    have e1 := j1.free 1
    clear G1 G2 hfr hat o3
    refine wpTill.next 7 rfl (by kernel_rfl) (by rfl) (fun K hK => ?_)
    go_simp
    refine hK _ _ (no_wait (by kernel_rfl)) ?_
    clear hK K
    try simp only [Act.put, List.setIfInBounds_toArray, List.set_cons_zero, List.set_cons_succ]
    refine wpTill.next 8 rfl (by kernel_rfl) (by rfl) (fun K hK => ?_)
    go_simp
    refine hK _ _ (no_wait (by kernel_rfl)) ?_
    clear hK K
    try simp only [Act.put, List.setIfInBounds_toArray, List.set_cons_zero, List.set_cons_succ]
    refine wpTill.done (by kernel_rfl) ?_
    have F9 := fr_set1 u2 w1.heap.size 1 (.slice A3 n3 c3)
    clear e0 e1
    gi_wp2_with fail
    refine ⟨(((KeepsOthers.drew W).from _).trans ((keeps_fr _ hf).trans kp)).trans (keeps_cell _ _ _ _), G3.comp F9 fun k _ hk => ⟨hk, by omega⟩, ⟨_, j1.set1 _, ?_, (i3.trans G3).comp F9 fun k _ hk => ⟨hk, by omega⟩⟩⟩
    rw [List.map_append, List.map_singleton, HX.out]
    exact ho.past F9 (fun k hk => by omega)
  case done =>
    rintro D ys W hD rfl ⟨v2, i1, o2, i3⟩ hK
    rw [nrm_all] at o2
    obtain ⟨A2, n2, c2, rfl⟩ := o2.form
    have c0 := i1.c0
    have c1' := i1.c1
    have hr := hr3.fr i3 ⟨by omega, by omega⟩
    have o1 := ho3.fr (i3.mono fun k _ hk => ⟨by omega, by omega⟩)
    have F4 := F3.comp i3 (R := fun k => k < w.heap.size) fun k _ hk => ⟨hk, by omega, by omega⟩
    have d0 := hr.c0
    have d1 := hr.c1
    have f0 := hr.free 0
    have f1 := hr.free 1
    have bs := hr.set2 (.slice A1 n1 c1) (.slice A2 n2 c2)
    have F5 : Fr (fun k => k ≠ w.heap.size + 1 + 1) W ((W.setCell ⟨w.heap.size + 1 + 1, 0, none⟩ (.slice A1 n1 c1)).setCell ⟨w.heap.size + 1 + 1, 1, none⟩ (.slice A2 n2 c2)) := (fr_set1 _ _ _ _).trans (fr_set1 _ _ _ _)
    gi_wp2
    have hK2 := (KeepsOthers.setCell (W.setCell ⟨w.heap.size + 1 + 1, 0, none⟩ (.slice A1 n1 c1)) ⟨w.heap.size + 1 + 1, 1, none⟩ (.slice A2 n2 c2)).same D _ ((KeepsOthers.setCell W ⟨w.heap.size + 1 + 1, 0, none⟩ (.slice A1 n1 c1)).same D _ hK rfl) rfl
    have gr := grownBy_putObj' ((W.setCell ⟨w.heap.size + 1 + 1, 0, none⟩ (.slice A1 n1 c1)).setCell ⟨w.heap.size + 1 + 1, 1, none⟩ (.slice A2 n2 c2)) D (.deferred none)
    have hrw : ∀ r, some D = some r → 0 ≤ r ∧ ∃ o : Obj, ((W.setCell ⟨w.heap.size + 1 + 1, 0, none⟩ (.slice A1 n1 c1)).setCell ⟨w.heap.size + 1 + 1, 1, none⟩ (.slice A2 n2 c2)).heap[r]? = some o ∧ o.isCells = false := fun r e => by cases e; exact ⟨Nat.zero_le _, _, hK2, rfl⟩
    exact leaves_mark hK2 rfl (results_cell2 rfl rfl (grown_cells gr hrw bs) Tryz.underlying69 grid2)
      ⟨_, _, rfl, ((o1.past F5 fun k hk => by omega).turn (fun _ _ _ h => Kd.int_any h) gr hrw).mono fun k hk => by omega, ((o2.past F5 fun k hk => by omega).turn (fun _ _ _ => RZ_cl) gr hrw).mono fun k hk => by omega, (F4.comp F5 (R := fun k => k < w.heap.size) fun k _ hk => ⟨hk, by omega⟩).comp (Fr.of_grown gr) fun k hk hk' => ⟨hk', fun e => by cases e; omega⟩⟩ rfl
  case stop => rintro D cc pre W hD hpre h hK; exact h.elim
/-- What Make answers. -/
def MakeRZ (w : World) (sh : List Int) (es : List RatL) (r : Int) (e : Ending) (w' : World) : Prop := ∃ v1 v2, e = .returned (.tuple #[.agg #[v1, v2], .int .i64 r]) ∧ (r ≠ 0 → v1 = .slice none 0 0 ∧ v2 = .slice none 0 0) ∧
  (r = 0 → Own Im 3 (fun k => w.heap.size ≤ k) w' v1 sh ∧ Own RZ 43 (fun k => w.heap.size ≤ k) w' v2 (es.map normR)) ∧ Fr (fun k => k < w.heap.size) w w'

set_option maxHeartbeats 4000000 in
theorem makeZ_t {S T : Nat → Prop} (w : World) (vs ve : Value) (sh : List Int) (es : List RatL) (L : Nat) (hs : Sl Im S w vs sh) (he : Sl Rm T w ve es) (hL : ∀ x ∈ es, x.2.1.length ≤ L ∧ x.2.2.length ≤ L) (hL1 : 1 ≤ L) (hl : L ≤ 104857600) (hsl : sh.length ≤ 1099511627000) (hel : es.length ≤ 1099511627000) :
    Calls Tryz.prog 9 #[vs, ve] w (MakeRZ w sh es (fitsT sh es.length)) := by
  obtain ⟨A, c, rfl, _, _, hlx⟩ := hs.slice
  obtain ⟨A', c', rfl, _, _, hly⟩ := he.slice
  have F := fun R => ((Fr.refl R w).alloc (.cells #[.slice none 0 0, .slice none 0 0] 26)).alloc (.cells #[.slice A sh.length c, .slice A' es.length c'] 26)
  have HS := Lib.hid (hs.up Im_pos (Nat.le_refl _) (F _))
  have HE := Lib.hid (he.up Rm_pos (Nat.le_refl _) (F _))
  have b2 := (Box2.new w 26 (.slice none 0 0) (.slice none 0 0)).alloc (.cells #[.slice A sh.length c, .slice A' es.length c'] 26)
  have b1 := Box2.new (w.alloc (.cells #[.slice none 0 0, .slice none 0 0] 26)) 26 (.slice A sh.length c) (.slice A' es.length c')
  simp only [World.size_alloc] at b1
  replace F := F (fun k => k < w.heap.size)
  obtain ⟨r, hr⟩ : ∃ r, r = fitsT sh es.length := ⟨_, rfl⟩
  rw [← hr]
  have HR := Lib.hid hr
  have HL := Lib.hid hL
  clear hs he hr hL
  go_enter Tryz.func9, Tryz.ntmps9
  go_wp2_with fail
  refine (fits_t _ _ _ _ _ sh HS.out hly).mono ?_
  rintro e w1 ⟨rfl, hf1⟩
  rw [← HR.out]
  replace HS := Lib.hid (HS.out.keep' Im_pos hf1)
  replace HE := Lib.hid (HE.out.keep' Rm_pos hf1)
  replace b1 := b1.keep hf1
  replace b2 := b2.keep hf1
  replace F := fr_then F hf1
  have l2 := b2.lt
  clear hf1
  by_cases h0 : r = 0
  · subst h0
    have c0 := b1.c0
    have c1 := b1.c1
    go_wp2_with fail
    with_reducible refine (of_t _ _ _ _ _ _ _).mono ?_
    rintro e w2 ⟨rfl, hf2⟩
    replace HS := Lib.hid (HS.out.keep' Im_pos hf2)
    replace HE := Lib.hid (HE.out.keep' Rm_pos hf2)
    replace b2 := b2.keep hf2
    replace F := fr_then F hf2
    clear hf2 b1 c0 c1
    have l2 := b2.lt
    go_wp2_with fail
    with_reducible refine (turnedZ_t _ _ _ sh es L HS.out HE.out HL.out hL1 hl hsl hel).mono ?_
    rintro e w3 ⟨v1, v2, rfl, h1, h2, hf3⟩
    obtain ⟨A1, n1, c1, rfl⟩ := h1.form
    obtain ⟨A2, n2, c2, rfl⟩ := h2.form
    have l3 := hf3.size
    replace b2 := b2.keep hf3
    have F3 := fr_then F hf3
    have s2 : w.heap.size + 1 ≤ w2.heap.size := by omega
    clear hf3 HS HE F
    go_wp2_with fail
    with_reducible refine (back_t _ _ _ _ _ _ _).mono ?_
    rintro e w4 ⟨rfl, hf4⟩
    replace h1 := h1.keep' hf4
    replace h2 := h2.keep' hf4
    replace b2 := b2.keep hf4
    have F4 := fr_then F3 hf4
    clear hf4 F3
    go_wp2_with ((with_reducible apply wpList_st2); rfl; rfl; exact b2; exact ten2; rfl; rfl; intro w9 B9 F9)
    refine bodyPost_ret (results_cell2_tmp rfl rfl B9 Tryz.underlying26 ten2) rfl ?_
    exact ⟨_, _, rfl, fun h => absurd rfl h, fun _ => ⟨(h1.past F9 fun k hk => by omega).mono fun k hk => by omega, (h2.past F9 fun k hk => by omega).mono fun k hk => by omega⟩, F4.comp F9 fun k _ hk => ⟨hk, by omega⟩⟩
  · go_wp2_with ((with_reducible apply wpList_st2); rfl; rfl; exact b2; exact ten2; rfl; rfl; intro w9 B9 F9)
    refine bodyPost_ret (results_cell2_tmp rfl rfl B9 Tryz.underlying26 ten2) rfl ?_
    exact ⟨.slice none 0 0, .slice none 0 0, rfl, fun _ => ⟨rfl, rfl⟩, fun h => absurd h h0, F.comp F9 fun k _ hk => ⟨hk, by omega⟩⟩
end Go.Proofs.YtjnojkfkhccgaaaGreat


/- turned by any function, and Copy, once more: gen_own.py. -/
namespace Go.Proofs.YtjnojkfkhccgaaaGreat
open Go.RowKit Go.Shelf
attribute [local go_sem] Oper.semAt_some

/-- What lies in memory while each is turned. -/
def TurnFZ (g : RatL → RatL) (es : List RatL) (b5 n : Nat) (s : Value) (w : World) (pre : List Nat) (W : World) : Prop :=
  ∃ v2, Box2 W b5 69 s v2 ∧ Own RZ 43 (fun k => n ≤ k) W v2 (pre.map (trn g es)) ∧ Fr (fun k => k < n ∧ k ≠ b5) w W
theorem TurnFZ.own {g : RatL → RatL} {es : List RatL} {b5 n : Nat} {s : Value} {w : World} (hb : b5 < n) : OwnFrom n (fun pre W => TurnFZ g es b5 n s w pre W) := fun pre W W' row hs hg hr => by
  obtain ⟨v2, h1, h2, h3⟩ := hs
  exact ⟨v2, grown_cells hg hr h1, h2.turn (fun _ _ _ => RZ_cl) hg hr, h3.comp (Fr.of_grown hg) fun k _ hk => ⟨hk, fun e => by have := (hr k e.symm).1; omega⟩⟩
set_option maxRecDepth 100000 in
set_option maxHeartbeats 8000000 in
theorem turnedFZ_t {S T : Nat → Prop} (f : FuncId) (g : RatL → RatL) (hcf : ∀ (args : Array Value) (u : World), (callFunc f args).run Tryz.prog u = .ok (.enter f args) u) (w : World) (vs ve : Value) (sh : List Int) (es : List RatL) (L : Nat) (hs : Sl Im S w vs sh) (he : Sl Rm T w ve es) (hL : ∀ x ∈ es, x.2.1.length ≤ L ∧ x.2.2.length ≤ L) (hF : ∀ (u : World) (x : RatL) (vn vd : Value) (X Y : Nat → Prop), Sl Lm X u vn x.2.1 → Sl Lm Y u vd x.2.2 → x.2.1.length ≤ L ∧ x.2.2.length ≤ L → Calls Tryz.prog f #[.agg #[.bool x.1, vn, vd]] u fun e u' => ∃ v1 v2, e = .returned (.agg #[.bool (g x).1, v1, v2]) ∧ OL (fun k => u.heap.size ≤ k) u' v1 v2 (g x).2.1 (g x).2.2 ∧ Fr (fun k => k < u.heap.size) u u') (hsl : sh.length ≤ 1099511627000) (hel : es.length ≤ 1099511627000) :
    Calls Tryz.prog 35 #[.agg #[vs, ve], .func (.func f) #[] #[]] w fun e w' => ∃ v1 v2, e = .returned (.agg #[v1, v2]) ∧ Own Im 3 (fun k => w.heap.size ≤ k) w' v1 sh ∧ Own RZ 43 (fun k => w.heap.size ≤ k) w' v2 (es.map g) ∧ Fr (fun k => k < w.heap.size) w w' := by
  obtain ⟨A, c, rfl, _, _, hlx⟩ := hs.slice
  obtain ⟨A', c', rfl, _, _, hly⟩ := he.slice
  have F0 := fun R => (((Fr.refl R w).alloc (.cells #[.slice A sh.length c, .slice A' es.length c'] 69)).alloc (.cells #[.func (.func f) #[] #[]] 60)).alloc (.cells #[.slice none 0 0, .slice none 0 0] 69)
  have hs0 := hs.up Im_pos (Nat.le_refl _) (F0 _)
  have he0 := he.up Rm_pos (Nat.le_refl _) (F0 _)
  have hb0 := ((Box2.new w 69 (.slice A sh.length c) (.slice A' es.length c')).alloc (.cells #[.func (.func f) #[] #[]] 60)).alloc (.cells #[.slice none 0 0, .slice none 0 0] 69)
  have hf0 := (Box.new (w.alloc (.cells #[.slice A sh.length c, .slice A' es.length c'] 69)) 60 (.func (.func f) #[] #[])).alloc (.cells #[.slice none 0 0, .slice none 0 0] 69)
  have hr0 := Box2.new ((w.alloc (.cells #[.slice A sh.length c, .slice A' es.length c'] 69)).alloc (.cells #[.func (.func f) #[] #[]] 60)) 69 (.slice none 0 0) (.slice none 0 0)
  simp only [World.size_alloc] at hf0 hr0
  replace F0 := F0 (fun k => k < w.heap.size)
  refine (callsIn_wide (n := 3)).1 ?_
  refine callsIn_of_wp_marks Tryz.func35 rfl trivial ?_ rfl
  simp only [Tryz.ntmps35, List.size_toArray, List.length_cons, List.length_nil, Nat.reduceAdd, Nat.reduceSub, Array.replicate_succ, Array.replicate_zero, List.push_toArray, List.append_toArray, List.nil_append, List.cons_append]
  gi_wp2_with fail
  refine ⟨trivial, ?_⟩
  with_reducible refine (callsIn_wide.2 (sclone_calls _ (.slice A sh.length c) sh hs0 hsl)).mono ?_
  rintro e w1 ⟨v1, rfl, ho1, hf1⟩
  obtain ⟨A1, n1, c1, rfl⟩ := ho1.form
  have he1 := he0.keep' Rm_pos hf1
  have hb1 := hb0.keep hf1
  have hfn1 := hf0.fr hf1 hf0.lt
  have hr1 := hr0.keep hf1
  have F1 := fr_then F0 hf1
  have s1 : w.heap.size + 3 ≤ w1.heap.size := by
    have := hf1.size
    simp only [World.size_alloc] at this
    omega
  have ho1' := ho1.bd.mono (T := fun k => w.heap.size + 3 ≤ k ∧ k < w1.heap.size) fun k hk => by
    have := hk.1
    simp only [World.size_alloc] at this
    exact ⟨by omega, hk.2⟩
  clear ho1 hs0 he0 hb0 hf0 hr0 hf1 F0
  have al := fun R => (Fr.refl R w1).alloc (.cells #[.slice A1 n1 c1, .slice none 0 0] 69)
  have b5 := Box2.new w1 69 (.slice A1 n1 c1) (.slice none 0 0)
  have he2 := he1.keep' Rm_pos (al _)
  have hb2 := hb1.alloc (.cells #[.slice A1 n1 c1, .slice none 0 0] 69)
  have hfn2 := hfn1.alloc (.cells #[.slice A1 n1 c1, .slice none 0 0] 69)
  have hr2 := hr1.alloc (.cells #[.slice A1 n1 c1, .slice none 0 0] 69)
  have ho2 := ho1'.fr (al _)
  have F2 := F1.alloc (.cells #[.slice A1 n1 c1, .slice none 0 0] 69)
  have c0 := hb2.c0
  have c1' := hb2.c1
  clear al he1 hb1 hfn1 hr1 ho1' F1
  gi_wp2_with fail
  refine ⟨trivial, ?_⟩
  with_reducible refine (callsIn_wide.2 (all_t _ _ _ _ _ _ _)).mono ?_
  rintro e w3 ⟨rfl, hbx, hf3⟩
  have s3 := hf3.size
  simp only [World.size_alloc] at s3 hbx
  have he3 := he2.keep' Rm_pos hf3
  have hfn3 := hfn2.fr hf3 hfn2.lt
  have hr3 := hr2.keep hf3
  have ho3 := ho2.keep' hf3
  have b53 := b5.keep hf3
  have F3 := fr_then F2 hf3
  obtain ⟨E, hE1, hE2⟩ := Rm_all he3
  have hbl := hbx.lt
  clear he2 hfn2 hr2 ho2 b5 F2 hf3 c0 c1' hb2 he3
  gi_wp2_with fail
  have sb5 : w1.heap.size < w3.heap.size := by omega
  refine wpIn_rangeFunc_ownH (F := Fence.wide) rfl (by omega) (gf := 69) (lb := #[.pointer (some ⟨w1.heap.size + 1, 0, none⟩)]) rfl trivial (enter_of Tryz.func69 (by decide) rfl)
    (all_stops (fun k => k < w3.heap.size ∧ k ≠ w1.heap.size) w3 (w1.heap.size + 1) es.length A' c' _ E hly hbx (fun j hj => (hE1 j hj).mono fun k hk => ⟨⟨by omega, by omega⟩, by omega⟩)) frK_t (frK_b (by intro k hk; exact hk.1)) (Below.refl _ _) (fun _ => rfl)
    (TurnFZ g es w1.heap.size w3.heap.size (.slice A1 n1 c1) w3) (fun _ _ _ => False)
    (TurnFZ.own sb5) (fun cc => fun _ _ _ _ h _ _ => h)
    ⟨_, b53, Own.nil _ _ _ _, Fr.refl _ _⟩
    (VarZ w1.heap.size 69 (.slice A1 n1 c1) w3.heap.size E (fun x p => { tmps := #[.agg #[.slice A sh.length c, .slice A' es.length c'], .func (.func f) #[] #[], .pointer (some ⟨w.heap.size, 0, none⟩), .pointer (some ⟨w.heap.size + 1, 0, none⟩), .pointer (some ⟨w.heap.size + 1 + 1, 0, none⟩), .pointer (some ⟨w1.heap.size, 0, none⟩), undef, p, .pointer (some ⟨w.heap.size, 0, none⟩), .slice A sh.length c, .slice A1 n1 c1, .agg #[.slice A1 n1 c1, .slice none 0 0], .agg #[.slice A sh.length c, .slice A' es.length c'], .func (.func 69) #[] #[.pointer (some ⟨w1.heap.size + 1, 0, none⟩)], .int .i64 x, E x, undef, undef, undef, undef, undef, undef, undef, undef, undef], defers := [] })) (fun x a => VarZ.own _ _ _ _ _ _ _ x a) ?assign ?body ?done ?stop
  case assign =>
    intro l pre x W K hI hK
    obtain ⟨P, n, d, Q, m, o, hEx, g1, g2⟩ := hE2 x
    generalize (es.getD x zR).1 = sx at hEx
    have HK := Lib.hid hK
    obtain ⟨v2, i1, i2, i3⟩ := hI
    have al := fun R => (Fr.refl R W).alloc (.cells #[.bool sx, .slice P n d, .slice Q m o] 43)
    have HI := Lib.hid (show TurnFZ g es w1.heap.size w3.heap.size (.slice A1 n1 c1) w3 pre (W.alloc (.cells #[.bool sx, .slice P n d, .slice Q m o] 43)) from ⟨v2, i1.alloc _, i2.fr (al _), i3.alloc _⟩)
    have HB := Lib.hid (And.intro (i1.alloc (.cells #[.bool sx, .slice P n d, .slice Q m o] 43)) i2.lt)
    have hsz := i3.size
    clear hK g1 g2 i1 i2 i3 al
    gi_wp2
    exact HK.out _ _ (keeps_alloc _ _ _) ((Fr.refl _ _).alloc _) HI.out ⟨W.heap.size, _, P, n, d, Q, m, o, v2, by simp only [hEx], hsz, hEx, Box3.new _ _ _ _ _, HB.out.1, HB.out.2⟩
  case body =>
    rintro l pre x a' W hl' - ⟨v2, i1, o2, i3⟩ ⟨b, s, P, n, d, Q, m, o, v2', rfl, hb, hEx, hx3, i1x, hlt2⟩ hpre
    obtain rfl := i1.same i1x
    obtain ⟨A2, n2, c2, rfl⟩ := o2.form
    obtain ⟨P', n', d', Q', m', o', hEx', r1, r2⟩ := (hE2 x).fr (i3.mono fun k _ hk => ⟨by omega, by omega⟩)
    have hlen := getD_len hL x
    obtain ⟨y, hy⟩ : ∃ y, y = es.getD x zR := ⟨_, rfl⟩
    rw [← hy] at hEx' r1 r2 hlen
    rw [hEx'] at hEx
    injection hEx with hEx
    injection hEx with hEx
    injection hEx with e1 hEx
    injection hEx with e2 hEx
    injection hEx with e3 hEx
    injection e1 with e1
    injection e2 with e4 e5 e6
    injection e3 with e7 e8 e9
    subst e1 e4 e5 e6 e7 e8 e9
    have HX := Lib.hid (show trn g es x = g y by rw [hy]; rfl)
    have hfn := hfn3.fr i3 ⟨by omega, by omega⟩
    have sW := i3.size
    have D := fun R => (Fr.refl R W).drew
    have i1' := i1.fr (D (fun _ => True)) trivial
    have o2' := o2.fr (D _)
    have hfn' := hfn.fr (D (fun _ => True)) trivial
    have hx' := hx3.fr (D (fun _ => True)) trivial
    have p := hF W.drew y (.slice P' n' d') (.slice Q' m' o') _ _ (r1.fr (D _)) (r2.fr (D _)) hlen
    generalize y.1 = sy at hx' p hEx'
    have PP := Lib.hid p
    have HLn := Lib.hid (show ((pre.map (trn g es)).length + 1) * 56 ≤ 140737488355328 ∧ (pre.map (trn g es)).length + 1 ≤ 9223372036854775807 by rw [List.length_map]; omega)
    have lb := hx3.lt
    have in2 := o2.in_
    have KS : ∀ u, Fr (fun k => k = w1.heap.size ∨ k = w.heap.size + 1 ∨ k = b) W.drew u → u.cell? ⟨w1.heap.size, 1, none⟩ = some (.slice A2 n2 c2) ∧ u.cell? ⟨w.heap.size + 1, 0, none⟩ = some (.func (.func f) #[] #[]) ∧ u.cell? ⟨b, 0, none⟩ = some (.bool sy) ∧ u.cell? ⟨b, 1, none⟩ = some (.slice P' n' d') ∧ u.cell? ⟨b, 2, none⟩ = some (.slice Q' m' o') := fun u hu =>
      ⟨(i1'.fr hu (.inl rfl)).c1, (hfn'.fr hu (.inr (.inl rfl))).cell, (hx'.fr hu (.inr (.inr rfl))).c0, (hx'.fr hu (.inr (.inr rfl))).c1, (hx'.fr hu (.inr (.inr rfl))).c2⟩
    have S0 := KS _ (Fr.refl _ _)
    have lt2 := o2.lt
    have hWd : W.drew.heap.size = W.heap.size := rfl
    clear p r1 r2 hlen hy hEx' hx3 hfn' i1x
    gi_wp2_with fail
    refine wpTill.beginIn (fun u => u.cell? ⟨w1.heap.size, 1, none⟩ = some (.slice A2 n2 c2) ∧ u.cell? ⟨w.heap.size + 1, 0, none⟩ = some (.func (.func f) #[] #[]) ∧ u.cell? ⟨b, 0, none⟩ = some (.bool sy) ∧ u.cell? ⟨b, 1, none⟩ = some (.slice P' n' d') ∧ u.cell? ⟨b, 2, none⟩ = some (.slice Q' m' o')) 7 (by kernel_rfl) (by kernel_rfl) out_none ?_
    change wpTill _ _ _ _ _ _ 9 _ _ _
    refine wpTill.take 0 (.pointer (some ⟨w1.heap.size, 1, none⟩)) rfl (by kernel_rfl) (by kernel_rfl) (fun _ _ _ h => h) S0 (by rfl) (fun u hu => by go_simp) ?_
    try simp only [Act.put, List.setIfInBounds_toArray, List.set_cons_zero, List.set_cons_succ]
    refine wpTill.take 1 (.slice A2 n2 c2) rfl (by kernel_rfl) (by kernel_rfl) (fun _ _ _ h => h) S0 (by rfl) (fun u hu => by go_simp) ?_
    try simp only [Act.put, List.setIfInBounds_toArray, List.set_cons_zero, List.set_cons_succ]
    refine wpTill.take 2 (.func (.func f) #[] #[]) rfl (by kernel_rfl) (by kernel_rfl) (fun _ _ _ h => h) S0 (by rfl) (fun u hu => by go_simp) ?_
    try simp only [Act.put, List.setIfInBounds_toArray, List.set_cons_zero, List.set_cons_succ]
    refine wpTill.take 3 (.agg #[.bool sy, .slice P' n' d', .slice Q' m' o']) rfl (by kernel_rfl) (by kernel_rfl) (fun _ _ _ h => h) S0 (by rfl) (fun u hu => by go_simp) ?_
    try simp only [Act.put, List.setIfInBounds_toArray, List.set_cons_zero, List.set_cons_succ]
    refine wpTill.next 4 rfl (by kernel_rfl) (by rfl) (fun K hK => ?_)
    go_simp
    with_reducible refine PP.out.mono ?_
    rintro e u1 ⟨v3, v4, rfl, hol, hf⟩
    obtain ⟨⟨P3, i4, j4, rfl⟩, ⟨P4, i5, j5, rfl⟩⟩ := hol.form
    have G1 : Fr (fun k => k = w1.heap.size ∨ k = w.heap.size + 1 ∨ k = b) W.drew u1 := hf.mono fun k hk _ => hk
    refine hK _ _ (fun _ => KS _ G1) ?_
    clear hK K
    try simp only [Act.put, List.setIfInBounds_toArray, List.set_cons_zero, List.set_cons_succ]
    refine wpTill.next 5 rfl (by kernel_rfl) (by rfl) (fun K hK => ?_)
    go_simp
    refine hK _ _ (fun _ => KS _ (G1.alloc _)) ?_
    clear hK K
    try simp only [Act.put, List.setIfInBounds_toArray, List.set_cons_zero, List.set_cons_succ]
    have o3 := o2'.keep' hf
    clear S0 PP
    refine wpTill.next 6 rfl (by kernel_rfl) (by rfl) (fun K hK => ?_)
    refine oper_push1 rzT (v := .slice A2 n2 c2) (y := g y) (T := fun k => W.heap.size ≤ k) rfl rfl rfl o3 ⟨_, _, rfl, hol.num.sl_fz, hol.den.sl_fz⟩ (fun k hk _ => ⟨Nat.le_trans sW hk, fun e => by have := lt2 k e.symm; omega⟩) (fun k hk => by have := hf.size; omega) HLn.out.1 HLn.out.2 ?_
    intro v5 u2 ho hfr hat
    obtain ⟨A3, n3, c3, rfl⟩ := ho.form
    have G2 : Fr (fun k => k = w1.heap.size ∨ k = w.heap.size + 1 ∨ k = b) W.drew u2 := G1.comp hfr fun k _ hk => ⟨hk, fun e => by have h1 := in2 _ e.symm; have h2 := hlt2 _ e.symm; omega⟩
    refine hK _ _ (fun _ => KS _ G2) ?_
    clear hK K
    try simp only [Act.put, List.setIfInBounds_toArray, List.set_cons_zero, List.set_cons_succ]
    have j1 := i1'.fr G2 (.inl rfl)
    have G3 : Fr (fun k => k < w3.heap.size ∧ k ≠ w1.heap.size) W u2 := (D _).trans (hf.comp hfr fun k _ hk => ⟨by omega, fun e => by have h1 := in2 _ e.symm; omega⟩)
    have kp := keeps_push w3.heap.size o3 hfr
    have e0 := j1.c1
    have e1 := j1.free 1
    clear G1 G2 hfr hat o3
    refine wpTill.next 7 rfl (by kernel_rfl) (by rfl) (fun K hK => ?_)
    go_simp
    refine hK _ _ (no_wait (by kernel_rfl)) ?_
    clear hK K
    try simp only [Act.put, List.setIfInBounds_toArray, List.set_cons_zero, List.set_cons_succ]
    refine wpTill.next 8 rfl (by kernel_rfl) (by rfl) (fun K hK => ?_)
    go_simp
    refine hK _ _ (no_wait (by kernel_rfl)) ?_
    clear hK K
    try simp only [Act.put, List.setIfInBounds_toArray, List.set_cons_zero, List.set_cons_succ]
    refine wpTill.done (by kernel_rfl) ?_
    have F9 := fr_set1 u2 w1.heap.size 1 (.slice A3 n3 c3)
    clear e0 e1
    gi_wp2_with fail
    refine ⟨(((KeepsOthers.drew W).from _).trans ((keeps_fr _ hf).trans kp)).trans (keeps_cell _ _ _ _), G3.comp F9 fun k _ hk => ⟨hk, by omega⟩, ⟨_, j1.set1 _, ?_, (i3.trans G3).comp F9 fun k _ hk => ⟨hk, by omega⟩⟩⟩
    rw [List.map_append, List.map_singleton, HX.out]
    exact ho.past F9 (fun k hk => by omega)
  case done =>
    rintro D ys W hD rfl ⟨v2, i1, o2, i3⟩ hK
    rw [trn_all] at o2
    obtain ⟨A2, n2, c2, rfl⟩ := o2.form
    have c0 := i1.c0
    have c1' := i1.c1
    have hr := hr3.fr i3 ⟨by omega, by omega⟩
    have o1 := ho3.fr (i3.mono fun k _ hk => ⟨by omega, by omega⟩)
    have F4 := F3.comp i3 (R := fun k => k < w.heap.size) fun k _ hk => ⟨hk, by omega, by omega⟩
    have d0 := hr.c0
    have d1 := hr.c1
    have f0 := hr.free 0
    have f1 := hr.free 1
    have bs := hr.set2 (.slice A1 n1 c1) (.slice A2 n2 c2)
    have F5 : Fr (fun k => k ≠ w.heap.size + 1 + 1) W ((W.setCell ⟨w.heap.size + 1 + 1, 0, none⟩ (.slice A1 n1 c1)).setCell ⟨w.heap.size + 1 + 1, 1, none⟩ (.slice A2 n2 c2)) := (fr_set1 _ _ _ _).trans (fr_set1 _ _ _ _)
    gi_wp2
    have hK2 := (KeepsOthers.setCell (W.setCell ⟨w.heap.size + 1 + 1, 0, none⟩ (.slice A1 n1 c1)) ⟨w.heap.size + 1 + 1, 1, none⟩ (.slice A2 n2 c2)).same D _ ((KeepsOthers.setCell W ⟨w.heap.size + 1 + 1, 0, none⟩ (.slice A1 n1 c1)).same D _ hK rfl) rfl
    have gr := grownBy_putObj' ((W.setCell ⟨w.heap.size + 1 + 1, 0, none⟩ (.slice A1 n1 c1)).setCell ⟨w.heap.size + 1 + 1, 1, none⟩ (.slice A2 n2 c2)) D (.deferred none)
    have hrw : ∀ r, some D = some r → 0 ≤ r ∧ ∃ o : Obj, ((W.setCell ⟨w.heap.size + 1 + 1, 0, none⟩ (.slice A1 n1 c1)).setCell ⟨w.heap.size + 1 + 1, 1, none⟩ (.slice A2 n2 c2)).heap[r]? = some o ∧ o.isCells = false := fun r e => by cases e; exact ⟨Nat.zero_le _, _, hK2, rfl⟩
    exact leaves_mark hK2 rfl (results_cell2 rfl rfl (grown_cells gr hrw bs) Tryz.underlying69 grid2)
      ⟨_, _, rfl, ((o1.past F5 fun k hk => by omega).turn (fun _ _ _ h => Kd.int_any h) gr hrw).mono fun k hk => by omega, ((o2.past F5 fun k hk => by omega).turn (fun _ _ _ => RZ_cl) gr hrw).mono fun k hk => by omega, (F4.comp F5 (R := fun k => k < w.heap.size) fun k _ hk => ⟨hk, by omega⟩).comp (Fr.of_grown gr) fun k hk hk' => ⟨hk', fun e => by cases e; omega⟩⟩ rfl
  case stop => rintro D cc pre W hD hpre h hK; exact h.elim

set_option maxHeartbeats 2000000 in
/-- A copy of a tensor has all that it has. -/
theorem tcopyZ_t {S T : Nat → Prop} (w : World) (vs ve : Value) (sh : List Int) (es : List RatL) (hs : Sl Im S w vs sh) (he : Sl Rm T w ve es) (hsl : sh.length ≤ 1099511627000) (hel : es.length ≤ 1099511627000) (hL : ∀ x ∈ es, x.2.1.length ≤ 1099511627000 ∧ x.2.2.length ≤ 1099511627000) :
    Calls Tryz.prog 28 #[.agg #[vs, ve]] w fun e w' => ∃ v1 v2, e = .returned (.agg #[v1, v2]) ∧ Own Im 3 (fun k => w.heap.size ≤ k) w' v1 sh ∧ Own RZ 43 (fun k => w.heap.size ≤ k) w' v2 es ∧ Fr (fun k => k < w.heap.size) w w' := by
  obtain ⟨A, c, rfl, _, _, hlx⟩ := hs.slice
  obtain ⟨A', c', rfl, _, _, hly⟩ := he.slice
  have F := ((Fr.refl (fun k => k < w.heap.size) w).alloc (.cells #[.slice A sh.length c, .slice A' es.length c'] 26)).alloc (.cells #[.slice none 0 0, .slice none 0 0] 26)
  have b2 := Box2.new (w.alloc (.cells #[.slice A sh.length c, .slice A' es.length c'] 26)) 26 (.slice none 0 0) (.slice none 0 0)
  simp only [World.size_alloc] at b2
  have HS := Lib.hid (hs.low Im_pos)
  have HE := Lib.hid (he.low Rm_pos)
  have HL := Lib.hid hL
  clear hs he hL
  go_enter Tryz.func28, Tryz.ntmps28
  go_wp2_with fail
  with_reducible refine (of_t _ _ _ _ _ _ _).mono ?_
  rintro e w2 ⟨rfl, hf2⟩
  replace b2 := b2.keep hf2
  replace F := fr_then F hf2
  have l2 := b2.lt
  clear hf2
  go_wp2_with fail
  have p := Lib.hid (turnedFZ_t 59 (fun x => x) (fun args u => by go_simp) w2 (.slice A sh.length c) (.slice A' es.length c') sh es 1099511627000 (HS.out.fr F) (HE.out.fr F) HL.out (fun u x vn vd X Y h1 h2 hl => (copy1_t u x.1 vn vd x.2.1 x.2.2 (h1.low Lm_pos) (h2.low Lm_pos) hl.1 hl.2)) hsl hel)
  with_reducible refine p.out.mono ?_
  rintro e w3 ⟨v1, v2, rfl, h1, h2, hf3⟩
  obtain ⟨A1, n1, c1, rfl⟩ := h1.form
  obtain ⟨A2, n2, c2, rfl⟩ := h2.form
  rw [List.map_id'] at h2
  replace b2 := b2.keep hf3
  have l3 := F.size
  have F3 := fr_then F hf3
  clear hf3 p
  go_wp2_with fail
  with_reducible refine (back_t _ _ _ _ _ _ _).mono ?_
  rintro e w4 ⟨rfl, hf4⟩
  replace h1 := h1.keep' hf4
  replace h2 := h2.keep' hf4
  replace b2 := b2.keep hf4
  have F4 := fr_then F3 hf4
  clear hf4 F3
  go_wp2_with ((with_reducible apply wpList_st2); rfl; rfl; exact b2; exact ten2; rfl; rfl; intro w9 B9 F9)
  refine bodyPost_ret (results_cell2 rfl rfl B9 Tryz.underlying26 ten2) rfl ?_
  exact ⟨_, _, rfl, (h1.past F9 fun k hk => by omega).mono fun k hk => by omega, (h2.past F9 fun k hk => by omega).mono fun k hk => by omega, F4.comp F9 fun k _ hk => ⟨hk, by omega⟩⟩
end Go.Proofs.YtjnojkfkhccgaaaGreat


/- Full and Scalar once more: gen_own.py. -/
namespace Go.Proofs.YtjnojkfkhccgaaaGreat
open Go.RowKit

def FullRZ (w : World) (sh : List Int) (x : RatL) (r : Int) (e : Ending) (w' : World) : Prop := ∃ v1 v2, e = .returned (.tuple #[.agg #[v1, v2], .int .i64 r]) ∧ (r ≠ 0 → v1 = .slice none 0 0 ∧ v2 = .slice none 0 0) ∧
  (r = 0 → Own Im 3 (fun k => w.heap.size ≤ k) w' v1 sh ∧ Own RZ 43 (fun k => w.heap.size ≤ k) w' v2 (List.replicate (cntS sh).toNat (normR x))) ∧ Fr (fun k => k < w.heap.size) w w'

set_option maxRecDepth 20000 in
set_option maxHeartbeats 4000000 in
theorem fullZ_t {S T : Nat → Prop} (w : World) (vs vn vd : Value) (sh : List Int) (x : RatL) (L : Nat) (hs : Sl Im S w vs sh) (hx : Sl Lm T w vn x.2.1) (hy : Sl Lm T w vd x.2.2) (hl : x.2.1.length ≤ L ∧ x.2.2.length ≤ L) (hL1 : 1 ≤ L) (hL : L ≤ 104857600) (hsl : sh.length ≤ 1099511627000) :
    Calls Tryz.prog 25 #[vs, .agg #[.bool x.1, vn, vd]] w (FullRZ w sh x (mayS sh)) := by
  obtain ⟨A, c, rfl, _, _, hlx⟩ := hs.slice
  obtain ⟨P, n1, c1, rfl⟩ := hx.form
  obtain ⟨Q, n2, c2, rfl⟩ := hy.form
  obtain ⟨r, hr⟩ : ∃ r, r = mayS sh := ⟨_, rfl⟩
  rw [← hr]
  have HR := Lib.hid hr
  have HL := Lib.hid hl
  obtain ⟨sx, hsx⟩ : ∃ s, s = x.1 := ⟨_, rfl⟩
  rw [← hsx]
  have F := ((Fr.refl (fun k => k < w.heap.size) w).alloc (.cells #[.bool sx, .slice P n1 c1, .slice Q n2 c2] 43)).alloc (.cells #[.slice none 0 0, .slice none 0 0] 26)
  have x0 := (Box3.new w 43 (.bool sx) (.slice P n1 c1) (.slice Q n2 c2)).alloc (.cells #[.slice none 0 0, .slice none 0 0] 26)
  have b2 := Box2.new (w.alloc (.cells #[.bool sx, .slice P n1 c1, .slice Q n2 c2] 43)) 26 (.slice none 0 0) (.slice none 0 0)
  simp only [World.size_alloc] at b2
  have HS := Lib.hid (hs.low Im_pos)
  have HX := Lib.hid (hx.low Lm_pos)
  have HY := Lib.hid (hy.low Lm_pos)
  have HSX := Lib.hid hsx
  clear hs hx hy hr hl hsx
  go_enter Tryz.func25, Tryz.ntmps25
  go_wp2_with fail
  generalize hW0 : (w.alloc (.cells #[.bool sx, .slice P n1 c1, .slice Q n2 c2] 43)).alloc (.cells #[.slice none 0 0, .slice none 0 0] 26) = W0 at F x0 b2 ⊢
  clear hW0
  have PM := Lib.hid (shmay_calls W0 (.slice A sh.length c) sh (HS.out.fr F))
  rw [← HR.out] at PM
  with_reducible refine PM.out.mono ?_
  rintro e W1 ⟨rfl, rfl⟩
  clear PM
  by_cases h0 : r = 0
  case neg =>
    go_wp2_with ((with_reducible apply wpList_st2); rfl; rfl; exact b2; exact ten2; rfl; rfl; intro w9 B9 F9)
    refine bodyPost_ret (results_cell2_tmp rfl rfl B9 Tryz.underlying26 ten2) rfl ?_
    exact ⟨.slice none 0 0, .slice none 0 0, rfl, fun _ => ⟨rfl, rfl⟩, fun h => absurd h h0, F.comp F9 fun k _ hk => ⟨hk, by omega⟩⟩
  subst h0
  go_wp2_with fail
  have D := fun R => (Fr.refl R W1).drew
  replace x0 := x0.keep (D _)
  replace b2 := b2.keep (D _)
  replace F := F.drew
  clear D
  obtain ⟨h4, h1, h2⟩ := mayS_ok HR.out.symm
  have hpos := pr_pos h1
  obtain ⟨N, hN⟩ : ∃ N : Nat, cntS sh = (N : Int) := ⟨(cntS sh).toNat, by rw [cntS_ok HR.out.symm]; omega⟩
  have hNt : (cntS sh).toNat = N := by omega
  have hN2 : N ≤ 1024 := by rw [cntS_ok HR.out.symm] at hN; omega
  have HNT := Lib.hid hNt
  have HN := Lib.hid hN
  clear hNt hN h1
  have KS : ∀ u, Fr (fun k => k < W1.drew.heap.size) W1.drew u → u.cell? ⟨w.heap.size, 0, none⟩ = some (.bool sx) ∧ u.cell? ⟨w.heap.size, 1, none⟩ = some (.slice P n1 c1) ∧ u.cell? ⟨w.heap.size, 2, none⟩ = some (.slice Q n2 c2) := fun u h => ⟨(x0.keep h).c0, (x0.keep h).c1, (x0.keep h).c2⟩
  have S0 := KS _ (Fr.refl _ _)
  refine wpTill.begin (fun u => u.cell? ⟨w.heap.size, 0, none⟩ = some (.bool sx) ∧ u.cell? ⟨w.heap.size, 1, none⟩ = some (.slice P n1 c1) ∧ u.cell? ⟨w.heap.size, 2, none⟩ = some (.slice Q n2 c2)) 9 (by kernel_rfl) ?_
  change wpTill _ _ _ _ _ _ 11 _ _ _
  refine wpTill.take 0 (.slice A sh.length c) rfl (by kernel_rfl) (by kernel_rfl) (fun _ _ _ h => h) S0 (by rfl) (fun u hu => by go_simp) ?_
  try simp only [Act.put, List.getElem_toArray, List.getElem_cons_zero, List.getElem_cons_succ, List.setIfInBounds_toArray, List.set_cons_zero, List.set_cons_succ]
  refine wpTill.take 1 (.agg #[.bool sx, .slice P n1 c1, .slice Q n2 c2]) rfl (by kernel_rfl) (by kernel_rfl) (fun _ _ _ h => h) S0 (by rfl) (fun u hu => by go_simp) ?_
  try simp only [Act.put, List.getElem_toArray, List.getElem_cons_zero, List.getElem_cons_succ, List.setIfInBounds_toArray, List.set_cons_zero, List.set_cons_succ]
  refine wpTill.take 3 (.slice A sh.length c) rfl (by kernel_rfl) (by kernel_rfl) (fun _ _ _ h => h) S0 (by rfl) (fun u hu => by go_simp) ?_
  try simp only [Act.put, List.getElem_toArray, List.getElem_cons_zero, List.getElem_cons_succ, List.setIfInBounds_toArray, List.set_cons_zero, List.set_cons_succ]
  refine wpTill.free (jj := 9) (m := 2) [(2, Fact.one (fun v u => ∃ b, v = .slice (some ⟨b, 0, none⟩) 1 1 ∧ u.heap[b]? = some (.cells #[.bool sx, .slice P n1 c1, .slice Q n2 c2] 43 (0, 0))) (fun hf ⟨b, e, h⟩ => ⟨b, e, hf.obj h (lt_of_block h)⟩)),
      (4, Fact.eq (.int .i64 N)),
      (5, Fact.one (fun v u => ∃ g, v = .slice (some ⟨g, 0, none⟩) N N ∧ u.heap[g]? = some (.cells (List.replicate N [.bool sx, .slice P n1 c1, .slice Q n2 c2]).flatten.toArray 43 (0, 0))) (fun hf ⟨b, e, h⟩ => ⟨b, e, hf.obj h (lt_of_block h)⟩)),
      (6, Fact.one (fun v u => ∃ B1 m1 k1 B2 m2 k2, v = .tuple #[.agg #[.slice B1 m1 k1, .slice B2 m2 k2], .int .i64 0] ∧ Own Im 3 (fun k => W1.drew.heap.size ≤ k) u (.slice B1 m1 k1) sh ∧ Own RZ 43 (fun k => W1.drew.heap.size ≤ k) u (.slice B2 m2 k2) (List.replicate N (normR x))) (fun hf ⟨B1, m1, k1, B2, m2, k2, e, h, g⟩ => ⟨B1, m1, k1, B2, m2, k2, e, h.keep' hf, g.keep' hf⟩)),
      (7, Fact.two 6 (fun v t => ∃ x y, t = .tuple #[x, y] ∧ v = x)),
      (8, Fact.two 6 (fun v t => ∃ x y, t = .tuple #[x, y] ∧ v = y))] [] [0, 0, 2, 0, 8, 30, 63, 127, 127, 511, 1023] [0, 1, 3] ?_ (by kernel_rfl) (by kernel_rfl) (by kernel_rfl) [(2, some 15), (4, some 17), (5, some 18), (6, some 19), (7, some 20), (8, some 21)] (by kernel_rfl) ?hA (fun _ _ _ _ _ h => h) KS (by kernel_rfl) ?steps trivial ?cont
  case hA =>
    intro vs
    simp only [fillD, List.foldl_cons, List.foldl_nil, Act.put, List.setIfInBounds_toArray, List.set_cons_zero, List.set_cons_succ]
    exact rfl
  case steps =>
    refine ⟨?_, ?_, ?_, ?_, ?_, ?_, trivial⟩
    · intro vs u h G
      have hu := KS u G
      exact stepAt.value (v := .slice (some ⟨u.heap.size, 0, none⟩) 1 1) (u := u.alloc (.cells #[.bool sx, .slice P n1 c1, .slice Q n2 c2] 43)) rfl rfl (by go_simp) ((Fr.refl _ _).alloc _) ⟨_, rfl, heap_alloc_new _ _⟩
    · intro vs u h G
      refine stepAt.call (f := 57) (args := #[.slice A sh.length c]) rfl rfl (by go_simp) ?_
      have p := shcount_calls u (.slice A sh.length c) sh (HS.out.fr (fr_then F G))
      rw [HN.out] at p
      refine p.mono ?_
      rintro e u' ⟨rfl, rfl⟩
      exact ⟨_, rfl, Fr.refl _ _, rfl⟩
    · rintro vs u ⟨h2, h4, -⟩ G
      obtain ⟨b, e2, hb⟩ := h2 rfl
      have e4 : vs 4 = .int .i64 N := h4 rfl
      refine stepAt.call (f := 56) (args := #[vs 2, vs 4]) rfl rfl (by go_simp) ?_
      rw [show vs 2 = _ from e2, e4]
      refine (repeat_t u b sx P Q n1 c1 n2 c2 N hb hN2).mono ?_
      rintro e u' ⟨g, rfl, hg, hc, hf⟩
      exact ⟨_, rfl, hf, g, rfl, hc⟩
    · rintro vs u ⟨-, -, h5, -⟩ G
      obtain ⟨g, e5, hg⟩ := h5 rfl
      refine stepAt.call (f := 9) (args := #[.slice A sh.length c, vs 5]) rfl rfl (by go_simp) ?_
      rw [show vs 5 = _ from e5]
      have hre := rep_sl (HX.out.fr (fr_then F G)) (HY.out.fr (fr_then F G)) hg hN2
      have hfit := fits_rep HR.out.symm (x := (sx, x.2.1, x.2.2))
      rw [HNT.out] at hfit
      have p := makeZ_t u (.slice A sh.length c) (.slice (some ⟨g, 0, none⟩) N N) sh (List.replicate N (sx, x.2.1, x.2.2)) L (HS.out.fr (fr_then F G)) hre (fun y hy => by rw [List.eq_of_mem_replicate hy]; exact HL.out) hL1 hL hsl (by rw [List.length_replicate]; omega)
      rw [hfit] at p
      refine p.mono ?_
      rintro e u' ⟨v1, v2, rfl, -, hk, hf⟩
      obtain ⟨o1, o2⟩ := hk rfl
      obtain ⟨B1, m1, k1, rfl⟩ := o1.form
      obtain ⟨B2, m2, k2, rfl⟩ := o2.form
      rw [List.map_replicate, HSX.out] at o2
      exact ⟨_, rfl, hf, _, _, _, _, _, _, rfl, o1.mono fun k hk => Nat.le_trans G.size hk, o2.mono fun k hk => Nat.le_trans G.size hk⟩
    · rintro vs u ⟨-, -, -, h6, -⟩ G
      obtain ⟨B1, m1, k1, B2, m2, k2, e6, -⟩ := h6 rfl
      replace e6 : vs 6 = _ := e6
      exact stepAt.pure (v := .agg #[.slice B1 m1 k1, .slice B2 m2 k2]) rfl rfl (by simp only [e6]; go_simp) ⟨_, _, e6, rfl⟩
    · rintro vs u ⟨-, -, -, h6, -⟩ G
      obtain ⟨B1, m1, k1, B2, m2, k2, e6, -⟩ := h6 rfl
      replace e6 : vs 6 = _ := e6
      exact stepAt.pure (v := .int .i64 0) rfl rfl (by simp only [e6]; go_simp) ⟨_, _, e6, rfl⟩
  case cont =>
    rintro vs u ⟨-, -, -, ⟨B1, m1, k1, B2, m2, k2, e6, o1, o2⟩, ⟨y1, z1, e7, q7⟩, ⟨y2, z2, e8, q8⟩, -⟩ G
    replace e6 : vs 6 = _ := e6
    have t7 := e6.symm.trans e7
    have t8 := e6.symm.trans e8
    cases t7
    cases t8
    replace q7 : vs 7 = _ := q7
    replace q8 : vs 8 = _ := q8
    simp only [e6, q7, q8]
    clear e6 e7 e8 q7 q8 S0
    have b3 := b2.keep G
    have lw := b2.lt
    have a0 := b3.c0; have a1 := b3.c1; have a2 := b3.free 0; have a3 := b3.free 1
    refine wpTill.next 9 rfl (by kernel_rfl) (by rfl) (fun K hK => ?_)
    go_simp
    refine hK _ _ (no_wait (by kernel_rfl)) ?_
    clear hK K a0 a1 a2 a3
    try simp only [Act.put, List.getElem_toArray, List.getElem_cons_zero, List.getElem_cons_succ, List.setIfInBounds_toArray, List.set_cons_zero, List.set_cons_succ]
    refine wpTill.next 10 rfl (by kernel_rfl) (by rfl) (fun K hK => ?_)
    go_simp
    refine hK _ _ (no_wait (by kernel_rfl)) ?_
    clear hK K
    try simp only [Act.put, List.getElem_toArray, List.getElem_cons_zero, List.getElem_cons_succ, List.setIfInBounds_toArray, List.set_cons_zero, List.set_cons_succ]
    refine wpTill.done (by kernel_rfl) ?_
    have B9 := b3.set2 (.slice B1 m1 k1) (.slice B2 m2 k2)
    have F9 := (fr_set1 u (w.heap.size + 1) 0 (.slice B1 m1 k1)).trans (fr_set1 _ (w.heap.size + 1) 1 (.slice B2 m2 k2))
    have FG := fr_then F G
    go_wp2_with fail
    refine bodyPost_ret (results_cell2_tmp rfl rfl B9 Tryz.underlying26 ten2) rfl ?_
    rw [HNT.out.symm] at o2
    exact ⟨_, _, rfl, fun h => absurd rfl h, fun _ => ⟨(o1.past F9 fun k hk => by omega).mono fun k hk => by omega, (o2.past F9 fun k hk => by omega).mono fun k hk => by omega⟩, FG.comp F9 fun k _ hk => ⟨hk, by omega⟩⟩

set_option maxRecDepth 20000 in
set_option maxHeartbeats 4000000 in
theorem scalarZ_t {T : Nat → Prop} (w : World) (vn vd : Value) (x : RatL) (L : Nat) (hx : Sl Lm T w vn x.2.1) (hy : Sl Lm T w vd x.2.2) (hl : x.2.1.length ≤ L ∧ x.2.2.length ≤ L) (hL1 : 1 ≤ L) (hL : L ≤ 104857600) :
    Calls Tryz.prog 27 #[.agg #[.bool x.1, vn, vd]] w fun e w' => ∃ v1 v2, e = .returned (.agg #[v1, v2]) ∧ Own Im 3 (fun k => w.heap.size ≤ k) w' v1 [] ∧ Own RZ 43 (fun k => w.heap.size ≤ k) w' v2 [normR x] ∧ Fr (fun k => k < w.heap.size) w w' := by
  obtain ⟨P, n1, c1, rfl⟩ := hx.form
  obtain ⟨Q, n2, c2, rfl⟩ := hy.form
  have HL := Lib.hid hl
  obtain ⟨sx, hsx⟩ : ∃ s, s = x.1 := ⟨_, rfl⟩
  rw [← hsx]
  have F := ((Fr.refl (fun k => k < w.heap.size) w).alloc (.cells #[.bool sx, .slice P n1 c1, .slice Q n2 c2] 43)).alloc (.cells #[.slice none 0 0, .slice none 0 0] 26)
  have b2 := Box2.new (w.alloc (.cells #[.bool sx, .slice P n1 c1, .slice Q n2 c2] 43)) 26 (.slice none 0 0) (.slice none 0 0)
  simp only [World.size_alloc] at b2
  have HX := Lib.hid (hx.low Lm_pos)
  have HY := Lib.hid (hy.low Lm_pos)
  have HSX := Lib.hid hsx
  clear hx hy hl hsx
  go_enter Tryz.func27, Tryz.ntmps27
  go_wp2_with fail
  generalize hW0 : (w.alloc (.cells #[.bool sx, .slice P n1 c1, .slice Q n2 c2] 43)).alloc (.cells #[.slice none 0 0, .slice none 0 0] 26) = W0 at F b2 ⊢
  clear hW0
  have p := fullZ_t W0 (.slice none 0 0) (.slice P n1 c1) (.slice Q n2 c2) [] x L (Sl.nil Im (fun _ => True) W0) (HX.out.fr F) (HY.out.fr F) HL.out hL1 hL (by decide)
  rw [← HSX.out] at p
  rw [show mayS [] = 0 by decide] at p
  have PP := Lib.hid p
  clear p
  refine PP.out.mono ?_
  rintro e W1 ⟨v1, v2, rfl, -, hk, hf⟩
  obtain ⟨o1, o2⟩ := hk rfl
  obtain ⟨B1, m1, k1, rfl⟩ := o1.form
  obtain ⟨B2, m2, k2, rfl⟩ := o2.form
  rw [show List.replicate (cntS []).toNat (normR x) = [normR x] from rfl] at o2
  have lw := b2.lt
  replace b2 := b2.keep hf
  replace F := fr_then F hf
  clear hk PP hf
  go_wp2_with ((with_reducible apply wpList_st2); rfl; rfl; exact b2.alloc _; exact ten2; rfl; rfl; intro w9 B9 F9)
  refine bodyPost_ret (results_cell2 rfl rfl B9 Tryz.underlying26 ten2) rfl ?_
  have al := fun R => (Fr.refl R W1).alloc (.cells #[.slice B1 m1 k1, .slice B2 m2 k2] 26)
  exact ⟨_, _, rfl, ((o1.fr (al _)).past F9 fun k hk => by omega).mono fun k hk => by omega, ((o2.fr (al _)).past F9 fun k hk => by omega).mono fun k hk => by omega, (F.alloc _).comp F9 fun k _ hk => ⟨hk, by omega⟩⟩
end Go.Proofs.YtjnojkfkhccgaaaGreat


/- Worlds that differ by numbers alone; spoil. -/
namespace Go.Proofs.YtjnojkfkhccgaaaGreat
open Go.RowKit

/-- The same value, or two numbers of a kind. -/
def Alike (v v' : Value) : Prop := v' = v ∨ ∃ k x y, v = .int k x ∧ v' = .int k y
theorem Alike.refl (v : Value) : Alike v v := .inl rfl
theorem Alike.trans {a b c : Value} (h : Alike a b) (k : Alike b c) : Alike a c := by
  rcases h with rfl | ⟨ki, x, y, rfl, rfl⟩
  · exact k
  · rcases k with rfl | ⟨ki', x', y', e, rfl⟩
    · exact .inr ⟨_, _, _, rfl, rfl⟩
    · injection e with e1 e2
      subst e1
      exact .inr ⟨_, _, _, rfl, rfl⟩
/-- Only numbers change, and only in blocks of S. -/
structure Mild (S : Nat → Prop) (w w' : World) : Prop where
  fr : Fr (fun k => ¬ S k) w w'
  cell : ∀ a v, w.cell? a = some v → ∃ v', w'.cell? a = some v' ∧ Alike v v'
  free : ∀ a v, w.cell? a = some v → w.frozen? a = false → w'.frozen? a = false
theorem Mild.refl (S : Nat → Prop) (w : World) : Mild S w w := ⟨Fr.refl _ _, fun _ v h => ⟨v, h, .refl v⟩, fun _ _ _ h => h⟩
theorem Mild.trans {S : Nat → Prop} {a b c : World} (h : Mild S a b) (k : Mild S b c) : Mild S a c :=
  ⟨h.fr.trans k.fr, fun x v hv => by
    obtain ⟨v1, h1, a1⟩ := h.cell x v hv
    obtain ⟨v2, h2, a2⟩ := k.cell x v1 h1
    exact ⟨v2, h2, a1.trans a2⟩, fun x v hv hf => by
    obtain ⟨v1, h1, _⟩ := h.cell x v hv
    exact k.free x v1 h1 (h.free x v hv hf)⟩
theorem Mild.drew {S : Nat → Prop} {a b : World} (h : Mild S a b) : Mild S a b.drew := ⟨h.fr.drew, h.cell, h.free⟩
theorem frozen_set (w : World) (p a : Addr) (v : Value) : (w.setCell p v).frozen? a = w.frozen? a := by
  unfold World.frozen? World.setCell
  by_cases h : p.block = a.block
  · rw [h, Array.getElem?_modify]
    simp only [if_true]
    cases hh : w.heap[a.block]? with
    | none => rfl
    | some o => cases o <;> rfl
  · rw [Array.getElem?_modify]
    simp only [if_neg h]
theorem Mild.set {S : Nat → Prop} {w : World} {p : Addr} {k : IntKind} {x : Int} (y : Int) (h : w.cell? p = some (.int k x)) (hS : S p.block) : Mild S w (w.setCell p (.int k y)) := by
  refine ⟨(Fr.refl _ _).setCell (fun _ hn => hn hS) _, fun a v hv => ?_, fun a v hv hf => ?_⟩
  · by_cases e : p = a
    · subst e
      rw [h] at hv
      cases hv
      exact ⟨_, World.cell?_setCell_same w p _ h, .inr ⟨_, _, _, rfl, rfl⟩⟩
    · exact ⟨v, (World.cell?_setCell_other w p a _ e).trans hv, .refl v⟩
  · rw [frozen_set]; exact hf
theorem Mild.same {S : Nat → Prop} {w w' : World} (h : Mild S w w') {a : Addr} {v : Value} (hv : w.cell? a = some v) (hn : ∀ k x, v ≠ .int k x) : w'.cell? a = some v := by
  obtain ⟨v', h1, rfl | ⟨k, x, y, e, _⟩⟩ := h.cell a v hv
  · exact h1
  · exact absurd e (hn k x)
theorem Mild.num {S : Nat → Prop} {w w' : World} (h : Mild S w w') {a : Addr} {k : IntKind} {z : Int} (hv : w.cell? a = some (.int k z)) : ∃ y, w'.cell? a = some (.int k y) := by
  obtain ⟨v', h1, rfl | ⟨k', x, y, e, rfl⟩⟩ := h.cell a _ hv
  · exact ⟨z, h1⟩
  · injection e with e1 e2
    subst e1
    exact ⟨y, h1⟩
/-- Numbers of a kind lie there, in blocks of S, not frozen. -/
def NumS (k : IntKind) (S : Nat → Prop) (w : World) (A : Option Addr) (n : Nat) : Prop :=
  n ≤ 9223372036854775807 ∧ (0 < n → ∃ ad, A = some ad ∧ S ad.block ∧ ∀ i, i < n → ∃ z : Int, w.cell? (ad.add i) = some (.int k z) ∧ w.frozen? (ad.add i) = false)
theorem NumS.mild {k : IntKind} {S T : Nat → Prop} {w w' : World} {A : Option Addr} {n : Nat} (h : NumS k S w A n) (m : Mild T w w') : NumS k S w' A n := by
  refine ⟨h.1, fun hp => ?_⟩
  obtain ⟨ad, e, hS, hc⟩ := h.2 hp
  refine ⟨ad, e, hS, fun i hi => ?_⟩
  obtain ⟨z, h1, h2⟩ := hc i hi
  obtain ⟨y, hy⟩ := m.num h1
  exact ⟨y, hy, m.free _ _ h1 h2⟩
theorem NumS.of_lm {S : Nat → Prop} {w : World} {A : Option Addr} {n c : Nat} {xs : List Nat} (h : Sl Lm (fun k => S k ∧ Fz w k) w (.slice A n c) xs) : NumS .u32 S w A n := by
  obtain ⟨A', c', e, h1, h2, h3, h4⟩ := h
  cases e
  refine ⟨by omega, fun hp => ?_⟩
  obtain ⟨ad, rfl, hS, hc⟩ := h4 hp
  refine ⟨ad, rfl, hS.1, fun i hi => ?_⟩
  obtain ⟨cs, hcs, hu⟩ := hc i xs[i] (List.getElem?_eq_getElem hi)
  have hcs1 : cs = _ := hcs.1
  have := hu 0 (.int .u32 (xs[i] : Nat)) (by rw [hcs1]; rfl)
  exact ⟨_, by simpa [Lm, Kd.nat] using this, Fz.free (by rw [addr_block]; exact hS.2)⟩
theorem NumS.of_own {e : TypeId} {S : Nat → Prop} {w : World} {A : Option Addr} {n c : Nat} {xs : List Int} (h : Own Im e S w (.slice A n c) xs) : NumS .i64 S w A n := by
  obtain ⟨A', c', e, h1, h2, h3, h4⟩ := h.sl
  cases e
  refine ⟨by omega, fun hp => ?_⟩
  obtain ⟨ad, rfl, hS, hc⟩ := h4 hp
  refine ⟨ad, rfl, hS, fun i hi => ?_⟩
  obtain ⟨cs, hcs, hu⟩ := hc i xs[i] (List.getElem?_eq_getElem hi)
  have hcs1 : cs = _ := hcs.1
  have := hu 0 (.int .i64 xs[i]) (by rw [hcs1]; rfl)
  exact ⟨_, by simpa [Kd.int] using this, Fz.free (by rw [addr_block]; exact h.fz _ rfl)⟩
/-- A rational lies at an address. -/
def RatP (S : Nat → Prop) (w : World) (b o : Nat) : Prop := ∃ s A n c B m d, w.cell? ⟨b, o, none⟩ = some (.bool s) ∧ w.cell? ⟨b, o + 1, none⟩ = some (.slice A n c) ∧ w.cell? ⟨b, o + 2, none⟩ = some (.slice B m d) ∧ NumS .u32 S w A n ∧ NumS .u32 S w B m
theorem RatP.mild {S T : Nat → Prop} {w w' : World} {b o : Nat} (h : RatP S w b o) (m : Mild T w w') : RatP S w' b o := by
  obtain ⟨s, A, n, c, B, k, d, h1, h2, h3, h4, h5⟩ := h
  exact ⟨s, A, n, c, B, k, d, m.same h1 (by simp), m.same h2 (by simp), m.same h3 (by simp), h4.mild m, h5.mild m⟩

set_option maxHeartbeats 4000000 in
theorem spoil_t {S : Nat → Prop} (w : World) (b o : Nat) (h : RatP S w b o) :
    Calls Tryz.prog 31 #[.pointer (some ⟨b, o, none⟩)] w fun e w' => e = .returned (.tuple #[]) ∧ Mild S w w' := by
  obtain ⟨s, A, n, c, B, m, d, h1, h2, h3, h4, h5⟩ := h
  have hn := h4.1
  have hm := h5.1
  have H4 := Lib.hid h4
  have H5 := Lib.hid h5
  have HW := Lib.hid (Mild.refl S w)
  clear h4 h5
  go_enter Tryz.func31, Tryz.ntmps31
  go_wp2_with fail
  go_loopw [2] (fun k W => ∃ (j : Nat), k = .int .i64 j ∧ j ≤ n ∧ Hid (Mild S w W)) (fun k _ => n - (intOf k).toNat)
  case atStart => exact ⟨0, rfl, by omega, HW⟩
  case round =>
    obtain ⟨j, rfl, hj, HM⟩ := hrel
    have g2 := HM.out.same h2 (by simp)
    by_cases hlt : j < n
    · obtain ⟨ad, rfl, hS, hc⟩ := (H4.out.mild HM.out).2 (by omega)
      obtain ⟨z, hz, hfz⟩ := hc j hlt
      have hz1 : wr.drew.cell? (ad.add j) = some (.int .u32 z) := hz
      have hfz1 : wr.drew.frozen? (ad.add j) = false := hfz
      have g2' : wr.drew.cell? ⟨b, o + 1, none⟩ = some (.slice (some ad) n c) := g2
      obtain ⟨y, hy⟩ : ∃ y, y = IntKind.u32.wrap (z + 1) := ⟨_, rfl⟩
      have hwrap : IntKind.u32.wrap (z + 1) = y := hy.symm
      have HN := Lib.hid (HM.out.trans ((Mild.set (S := S) y hz (by rw [addr_block]; exact hS)).drew))
      have HN' : Hid (Mild S w (wr.drew.setCell (ad.add j) (.int .u32 y))) := HN
      clear hy hc
      go_wp2_with fail
      go_region
      all_goals
        go_wp2_with fail
        go_roundw
        case rel => exact ⟨j + 1, by go_num, by omega, HN⟩
        case measure => first | (simp [intOf]; done) | (simp [intOf]; omega)
    · obtain rfl : j = n := by omega
      clear h2 H4 hlt
      go_wp2_with fail
      go_loopw [3] (fun k W => ∃ (j : Nat), k = .int .i64 j ∧ j ≤ m ∧ Hid (Mild S w W)) (fun k _ => m - (intOf k).toNat)
      case atStart => exact ⟨0, rfl, by omega, HM⟩
      case round =>
        clear HM g2
        obtain ⟨i, rfl, hi, HM⟩ := hrel
        have g3 := HM.out.same h3 (by simp)
        by_cases hlt : i < m
        · obtain ⟨ad, rfl, hS, hc⟩ := (H5.out.mild HM.out).2 (by omega)
          obtain ⟨z, hz, hfz⟩ := hc i hlt
          have hz1 : wr.drew.cell? (ad.add i) = some (.int .u32 z) := hz
          have hfz1 : wr.drew.frozen? (ad.add i) = false := hfz
          have g3' : wr.drew.cell? ⟨b, o + 2, none⟩ = some (.slice (some ad) m d) := g3
          obtain ⟨y, hy⟩ : ∃ y, y = IntKind.u32.wrap (z + 1) := ⟨_, rfl⟩
          have hwrap : IntKind.u32.wrap (z + 1) = y := hy.symm
          have HN := Lib.hid (HM.out.trans ((Mild.set (S := S) y hz (by rw [addr_block]; exact hS)).drew))
          clear hy hc
          go_wp2_with fail
          go_region
          all_goals
            go_wp2_with fail
            go_roundw
            case rel => exact ⟨i + 1, by go_num, by omega, HN⟩
            case measure => first | (simp [intOf]; done) | (simp [intOf]; omega)
        · go_wp2_with fail
          refine bodyPost_end (results_none rfl _ _ _) rfl ?_
          exact ⟨rfl, HM.out⟩

end Go.Proofs.YtjnojkfkhccgaaaGreat


/- Lists of tensors of the call's own, as the loops see them. -/
namespace Go.Proofs.YtjnojkfkhccgaaaGreat
open Go.RowKit

/-- A tensor of the call's own. -/
def KT : Kd (List Int × List RatL) where
  size := 2
  rd S w x cs := ∃ vs ve, cs = [vs, ve] ∧ Own Im 3 S w vs x.1 ∧ Own RZ 43 S w ve x.2
  len h := by obtain ⟨_, _, rfl, _⟩ := h; rfl
  one h u hu := by
    obtain ⟨vn, vd, rfl, hn, hd⟩ := h
    obtain ⟨A, n, c, rfl⟩ := hn.form
    obtain ⟨B, m, k, rfl⟩ := hd.form
    simp at hu
    rcases hu with rfl | rfl <;> rfl
  mono hs h := by obtain ⟨vn, vd, e, hn, hd⟩ := h; exact ⟨vn, vd, e, hn.mono hs, hd.mono hs⟩
  bd h := by obtain ⟨vn, vd, e, hn, hd⟩ := h; exact ⟨vn, vd, e, hn.bd, hd.bd⟩
  fr h hf := by obtain ⟨vn, vd, e, hn, hd⟩ := h; exact ⟨vn, vd, e, hn.fr hf, hd.fr hf⟩
theorem KT_pos : 0 < KT.size := by decide
theorem ktT : ElemT Tryz.prog KT 64 26 48 := ElemT.mk' (.agg #[.slice none 0 0, .slice none 0 0]) Tryz.underlying64 KT_pos (by kernel_rfl) rfl
/-- A row of two, just built. -/
theorem Own.pair {α : Type} {K : Kd α} {e : TypeId} {S : Nat → Prop} (w : World) {x y : α} {cs ds : List Value} (hS : S w.heap.size) (hr : K.rd (fun k => S k ∧ k < w.heap.size) w x cs) (hq : K.rd (fun k => S k ∧ k < w.heap.size) w y ds) : Own K e S (w.alloc (.cells (cs ++ ds).toArray e)) (.slice (some ⟨w.heap.size, 0, none⟩) 2 2) [x, y] := by
  have hcl := K.len hr
  have hdl := K.len hq
  refine ⟨cs ++ ds, World.ownsRow_lit w (cs ++ ds).toArray 2 (Nat.zero_le _) (by decide) (by simp [hcl, hdl]; omega), fun g hg => by simp [Value.ownBlock] at hg; subst hg; exact hS, fun i z hz => ?_⟩
  rcases i with _ | _ | i
  · simp at hz; subst hz
    refine ⟨cs, K.mono (fun k hk => ⟨hk.1, fun e => by simp [Value.ownBlock] at e; omega⟩) (K.fr hr ((Fr.refl _ w).alloc _)), fun j u hj => ?_⟩
    rw [Nat.zero_mul, Nat.zero_add, List.getElem?_append_left (List.getElem?_eq_some_iff.1 hj).1]
    exact hj
  · simp at hz; subst hz
    refine ⟨ds, K.mono (fun k hk => ⟨hk.1, fun e => by simp [Value.ownBlock] at e; omega⟩) (K.fr hq ((Fr.refl _ w).alloc _)), fun j u hj => ?_⟩
    rw [Nat.zero_add, Nat.one_mul, List.getElem?_append_right (by omega), hcl, Nat.add_sub_cancel_left]
    exact hj
  · simp at hz
/-- Rationals lie in a row. -/
def RatsP (S : Nat → Prop) (w : World) (B : Option Addr) (m : Nat) : Prop := m ≤ 9223372036854775807 ∧ (0 < m → ∃ g, B = some ⟨g, 0, none⟩ ∧ ∀ j, j < m → RatP S w g (j * 3))
theorem RatsP.mild {S T : Nat → Prop} {w w' : World} {B : Option Addr} {m : Nat} (h : RatsP S w B m) (hm : Mild T w w') : RatsP S w' B m := by
  refine ⟨h.1, fun hp => ?_⟩
  obtain ⟨g, e, hc⟩ := h.2 hp
  exact ⟨g, e, fun j hj => (hc j hj).mild hm⟩
/-- A tensor lies at an address. -/
def TenP (S : Nat → Prop) (w : World) (b o : Nat) : Prop := ∃ A n c B m d, w.cell? ⟨b, o, none⟩ = some (.slice A n c) ∧ w.cell? ⟨b, o + 1, none⟩ = some (.slice B m d) ∧ NumS .i64 S w A n ∧ RatsP S w B m
theorem TenP.mild {S T : Nat → Prop} {w w' : World} {b o : Nat} (h : TenP S w b o) (m : Mild T w w') : TenP S w' b o := by
  obtain ⟨A, n, c, B, k, d, h1, h2, h3, h4⟩ := h
  exact ⟨A, n, c, B, k, d, m.same h1 (by simp), m.same h2 (by simp), h3.mild m, h4.mild m⟩
theorem RatP.of {S : Nat → Prop} {w : World} {x : RatL} {cs : List Value} {b o : Nat} (h : RZ.rd S w x cs) (hc : ∀ (j : Nat) (u : Value), cs[j]? = some u → w.cell? ⟨b, o + j, none⟩ = some u) : RatP S w b o := by
  obtain ⟨vn, vd, rfl, hn, hd⟩ := h
  obtain ⟨A, n, c, rfl⟩ := hn.form
  obtain ⟨B, m, d, rfl⟩ := hd.form
  exact ⟨_, A, n, c, B, m, d, hc 0 _ rfl, hc 1 _ rfl, hc 2 _ rfl, NumS.of_lm hn, NumS.of_lm hd⟩
theorem RatsP.of {e : TypeId} {S : Nat → Prop} {w : World} {B : Option Addr} {m d : Nat} {xs : List RatL} (h : Own RZ e S w (.slice B m d) xs) : RatsP S w B m := by
  obtain ⟨cells, h1, h2, h3⟩ := h
  obtain ⟨hlen, ⟨e0, hn⟩ | ⟨g, cap, cur, e0, hb, hg, hcap, hmax, hsz, htake⟩⟩ := h1
  · cases e0
    exact ⟨by omega, fun hp => by omega⟩
  · cases e0
    refine ⟨Nat.le_trans hcap hmax, fun hp => ⟨g, rfl, fun j hj => ?_⟩⟩
    obtain ⟨cs, hr, hu⟩ := h3 j xs[j] (List.getElem?_eq_getElem hj)
    refine RatP.of (RZ.mono (fun k hk => hk.1) hr) fun i u hi => ?_
    have hcu := hu i u hi
    rw [← htake, List.getElem?_take] at hcu
    split at hcu
    · rw [cell_of_row w g _ cur e (0, 0) hg]
      simpa [RZ] using hcu
    · cases hcu
theorem TenP.of {e : TypeId} {S : Nat → Prop} {w : World} {A : Option Addr} {n c : Nat} {xs : List (List Int × List RatL)} (h : Own KT e S w (.slice A n c) xs) : n ≤ 9223372036854775807 ∧ (0 < n → ∃ g, A = some ⟨g, 0, none⟩ ∧ ∀ j, j < n → TenP S w g (j * 2)) := by
  obtain ⟨cells, h1, h2, h3⟩ := h
  obtain ⟨hlen, ⟨e0, hn⟩ | ⟨g, cap, cur, e0, hb, hg, hcap, hmax, hsz, htake⟩⟩ := h1
  · cases e0
    exact ⟨by omega, fun hp => by omega⟩
  · cases e0
    refine ⟨Nat.le_trans hcap hmax, fun hp => ⟨g, rfl, fun j hj => ?_⟩⟩
    obtain ⟨cs, hr, hu⟩ := h3 j xs[j] (List.getElem?_eq_getElem hj)
    obtain ⟨vs, ve, rfl, o1, o2⟩ := hr
    obtain ⟨A1, n1, c1, rfl⟩ := o1.form
    obtain ⟨B1, m1, d1, rfl⟩ := o2.form
    have hc : ∀ (i : Nat) (u : Value), [Value.slice A1 n1 c1, .slice B1 m1 d1][i]? = some u → w.cell? ⟨g, j * 2 + i, none⟩ = some u := fun i u hi => by
      have hcu := hu i u hi
      rw [← htake, List.getElem?_take] at hcu
      split at hcu
      · rw [cell_of_row w g _ cur e (0, 0) hg]
        simpa [KT] using hcu
      · cases hcu
    exact ⟨A1, n1, c1, B1, m1, d1, hc 0 _ rfl, hc 1 _ rfl, NumS.of_own (o1.mono fun k hk => hk.1), RatsP.of (o2.mono fun k hk => hk.1)⟩
/-- All noughts are an index within a shape. -/
theorem off_noughts {sh : List Int} (h : mayS sh = 0) : offE sh (List.replicate sh.length 0) = 0 := by
  refine offE_0 h (by simp) ?_
  obtain ⟨_, h1, _⟩ := mayS_ok h
  intro k hk
  have := h1 sh[k] (List.getElem_mem hk)
  simp [List.getD_eq_getElem?_getD, List.getElem?_eq_getElem hk, hk]
  omega
end Go.Proofs.YtjnojkfkhccgaaaGreat

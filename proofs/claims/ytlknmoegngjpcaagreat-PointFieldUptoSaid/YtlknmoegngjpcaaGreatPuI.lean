import Derived.Test.YtlknmoegngjpcaaGreatPuJ
set_option linter.unusedSimpArgs false
set_option linter.unusedVariables false

/- PointField: printed by gen_pui.py. -/
namespace Go.Proofs.YtlknmoegngjpcaaGreat
open Go.RowKit

/-- a list of rationals, read, with its bounds -/
structure RS (S : Nat → Prop) (w : World) (v : Value) (es : List RatL) (L : Nat) : Prop where
  sl : Sl Rm S w v es
  le : es.length ≤ L
  lx : ∀ x ∈ es, x.2.1.length ≤ L ∧ x.2.2.length ≤ L

theorem merge2 {H G : Nat → Nat → World → Prop} {X : Prop} (h : (∀ b c V, H b c V → G b c V) → X) (k : ∀ b c V, H b c V → G b c V) : X := h k
/-- the elements of a list laid round -/
def rot (l : List RatL) (j : Nat) : List Rat := (List.range j).map fun i => qOf (l.getD (i % l.length) zR)
theorem rot_len (l : List RatL) (j : Nat) : (rot l j).length = j := by rw [rot, List.length_map, List.length_range]
theorem rot_step (l : List RatL) (j : Nat) (h : j % l.length < l.length) : rot l (j + 1) = rot l j ++ [qOf l[j % l.length]] := by
  rw [rot, List.range_succ, List.map_append, ← rot, List.map_singleton, List.getD_eq_getElem?_getD, List.getElem?_eq_getElem h]
  rfl
theorem rot_can {l : List RatL} {j : Nat} {q : Rat} (h : rot l (j + 1) = rot l j ++ [q]) : (rot l (j + 1)).map canR = (rot l j).map canR ++ [canR q] := by rw [h, List.map_append]; rfl
theorem lensl_snoc {M : Nat} {l : List Rat} {q : Rat} (h : LensL M l) (hq : Lens M q) : LensL M (l ++ [q]) := fun p hp => by
  rcases List.mem_append.1 hp with hp | hp
  · exact h p hp
  · rw [List.mem_singleton] at hp; rw [hp]; exact hq
/-- a rational, answered by Back -/
def OQ (n0 : Nat) (q : Rat) (u : World) (v : Value) : Prop := ∃ A n c B m k, v = .agg #[.bool (sg q), .slice A n c, .slice B m k] ∧ OL (fun k => n0 ≤ k) u (.slice A n c) (.slice B m k) (dg LB q.num.natAbs) (dg LB q.den)
theorem OQ.out {n0 : Nat} {q : Rat} {u : World} {x a b : Value} (h : OQ n0 q u (.agg #[x, a, b])) : OL (fun k => n0 ≤ k) u a b (dg LB q.num.natAbs) (dg LB q.den) := by
  obtain ⟨A, n, c, B, m, k, e, h⟩ := h
  cases e
  exact h
theorem rback_u {w : World} {s a b : Value} {q : Rat} {K n0 : Nat} (h : RQ q K w (.agg #[s, a, b])) (hs : s = .bool (sg q)) (hn : n0 ≤ w.heap.size) (hK : K ≤ 1099511627000) (hl : Lens 6 q) : Calls Tryz.prog 39 #[.agg #[s, a, b]] w (Ret w (OQ n0 q)) := by
  subst hs
  refine (rback_r w (sg q) a b q K h.out rfl hK (by have := hl.1; omega) (by have := hl.2; omega)).mono ?_
  rintro e u ⟨v1, v2, rfl, ho, hf⟩
  obtain ⟨⟨A, n, c, rfl⟩, ⟨B, m, k, rfl⟩⟩ := ho.form
  exact ⟨_, rfl, hf, fun u' hu' => ⟨_, _, _, _, _, _, rfl, (ho.keep hu').num.mono fun k hk => by omega, (ho.keep hu').den.mono fun k hk => by omega⟩⟩
/-- a row of one rational -/
def OneE (n0 : Nat) (q : Rat) (u : World) (v : Value) : Prop := ∃ b, v = .slice (some ⟨b, 0, none⟩) 1 1 ∧ Sl Rm (fun k => n0 ≤ k) u v [canR q]
theorem one_e {n0 : Nat} {q : Rat} {u : World} {a b : Value} (h : OL (fun k => n0 ≤ k) u a b (dg LB q.num.natAbs) (dg LB q.den)) (hn : n0 ≤ u.heap.size) : Hold (fun u' => OneE n0 q u' (.slice (some ⟨u.heap.size, 0, none⟩) 1 1)) (u.alloc (.cells #[.bool (sg q), a, b] 51)) := by
  have o := Own.single (K := Rm) (e := 51) (S := fun k => n0 ≤ k) (x := canR q) (cs := [.bool (sg q), a, b]) u hn ⟨a, b, rfl, h.num.bd.sl, h.den.bd.sl⟩
  exact fun u' hu' => ⟨_, rfl, o.sl.keep' Rm_pos hu'⟩

/-- is one of the numbers 0? -/
def anyZ (l : List Rat) : Bool := l.any fun q => decide (q = 0)
theorem anyz_step {l : List Rat} {j : Nat} (h : j < l.length) : anyZ (l.take (j + 1)) = (anyZ (l.take j) || decide (l[j] = 0)) := by
  unfold anyZ
  rw [← List.take_append_getElem h, List.any_append]
  simp
theorem anyz_true {l : List Rat} (h : ¬ ∀ p ∈ l, p ≠ 0) : anyZ l = true := by
  unfold anyZ
  rw [List.any_eq_true]
  refine Classical.byContradiction fun hn => h fun p hp h0 => hn ⟨p, hp, decide_eq_true h0⟩

set_option maxRecDepth 20000 in
set_option maxHeartbeats 32000000 in
theorem pfield_walk {S : Nat → Prop} {sha : List Int} {ea el em : List RatL} (w : World) (vx vl vm : Value) (L : Nat) (hx : TL S w vx sha ea L) (hl : RS S w vl el L) (hm : RS S w vm em L) (hL : L ≤ 1048576) :
    Calls Tryz.prog 9 #[vx, vl, vm] w fun e w' => e = .returned (.bool true) ∧ Fr (fun k => k < w.heap.size) w w' := by
  have FA := Lib.hid (hx.fit hL)
  obtain ⟨va, ve, rfl, ha, he⟩ := hx.ex
  obtain ⟨A, c, rfl, _, _, _⟩ := ha.slice
  obtain ⟨A', c', rfl, _, _, _⟩ := he.slice
  obtain ⟨B, d, rfl, _, _, lB⟩ := hl.sl.slice
  obtain ⟨C, g, rfl, _, _, lC⟩ := hm.sl.slice
  have HA := TV.hold ⟨ha.any, he.any⟩
  have HAl := Lib.hid (And.intro (ha.low Im_pos) (he.low Rm_pos))
  have HLl := Lib.hid (hl.sl.low Rm_pos)
  have HLm := Lib.hid (hm.sl.low Rm_pos)
  have hll := hl.le
  have hlm := hm.le
  have HXl := Lib.hid (show ∀ x ∈ el, x.2.1.length ≤ L + 2 ∧ x.2.2.length ≤ L + 2 from fun x hx => by have := hl.lx x hx; omega)
  have HXm := Lib.hid (show ∀ x ∈ em, x.2.1.length ≤ L + 2 ∧ x.2.2.length ≤ L + 2 from fun x hx => by have := hm.lx x hx; omega)
  clear hx ha he hl hm
  have F := (Fr.refl (fun k => k < w.heap.size) w).alloc (.cells #[.slice A sha.length c, .slice A' ea.length c'] 26)
  have xa := Box2.new w 26 (.slice A sha.length c) (.slice A' ea.length c')
  replace HA := HA.keep (F.mono fun k h _ => h)
  generalize hn1 : el.length = n1 at *
  generalize hn2 : em.length = n2 at *
  have HN1 := Lib.hid hn1
  have HN2 := Lib.hid hn2
  obtain ⟨b1, hb1⟩ : ∃ b, fewB ea = b := ⟨_, rfl⟩
  obtain ⟨r, hr⟩ : ∃ r, mayT sha ea = r := ⟨_, rfl⟩
  have HB1 := Lib.hid hb1
  have HR := Lib.hid hr
  clear hb1 hr hn1 hn2
  have p0 := xa.c0
  have p1 := xa.c1
  have P := Lib.hid (few_u HA.now HB1)
  go_enter Tryz.func9, Tryz.ntmps9
  go_wp2_with fail
  with_reducible refine P.out.mono ?_
  rintro e W1 ⟨_, rfl, hf, h⟩
  obtain rfl := h.now
  replace xa := xa.keep hf
  replace HA := HA.keep hf
  replace F := fr_then F hf
  clear P hf h p0 p1
  have p0 := xa.c0
  have p1 := xa.c1
  cases b1
  case false =>
    go_wp2_with fail
    with_reducible refine (known_u _).mono ?_
    rintro e V ⟨_, rfl, hf, h⟩
    obtain rfl := h.now
    go_wp2_with fail
    go_ret
    exact ⟨rfl, fr_then F hf⟩
  have P := Lib.hid (may_u HA.now FA HR)
  go_wp2_with fail
  with_reducible refine P.out.mono ?_
  rintro e W2 ⟨_, rfl, hf, h⟩
  obtain rfl := h.now
  replace xa := xa.keep hf
  replace HA := HA.keep hf
  replace F := fr_then F hf
  clear P hf h p0 p1
  have p0 := xa.c0
  have p1 := xa.c1
  have KN : ∀ (V : World), Fr (fun k => k < w.heap.size) w V → Calls Tryz.prog 15 #[] V fun e u => e = .returned (.bool true) ∧ Fr (fun k => k < w.heap.size) w u := fun V hV => (known_u V).mono fun e u h => by
    obtain ⟨_, rfl, hf, h⟩ := h
    obtain rfl := h.now
    exact ⟨rfl, fr_then hV hf⟩
  by_cases hg : r ≠ 0 ∨ n1 = 0 ∨ n2 = 0 ∨ 64 < n1 ∨ 64 < n2
  · by_cases h1 : r = 0
    · by_cases h2 : n1 = 0
      · go_wp2_with fail
        with_reducible refine (KN _ F).mono ?_
        rintro e V ⟨rfl, F⟩
        go_wp2_with fail
        go_ret
        exact ⟨rfl, F⟩
      · by_cases h3 : n2 = 0
        · go_wp2_with fail
          with_reducible refine (KN _ F).mono ?_
          rintro e V ⟨rfl, F⟩
          go_wp2_with fail
          go_ret
          exact ⟨rfl, F⟩
        · by_cases h4 : 64 < n1
          · go_wp2_with fail
            with_reducible refine (KN _ F).mono ?_
            rintro e V ⟨rfl, F⟩
            go_wp2_with fail
            go_ret
            exact ⟨rfl, F⟩
          · have h5 : 64 < n2 := by omega
            go_wp2_with fail
            with_reducible refine (KN _ F).mono ?_
            rintro e V ⟨rfl, F⟩
            go_wp2_with fail
            go_ret
            exact ⟨rfl, F⟩
    · go_wp2_with fail
      with_reducible refine (KN _ F).mono ?_
      rintro e V ⟨rfl, F⟩
      go_wp2_with fail
      go_ret
      exact ⟨rfl, F⟩
  obtain rfl : r = 0 := by omega
  have k1 : 0 < n1 := by omega
  have k2 : 0 < n2 := by omega
  have k3 : n1 ≤ 64 := by omega
  have k4 : n2 ≤ 64 := by omega
  have z1 : ((n1 : Int) == 0) = false := beq_eq_false_iff_ne.2 (by omega)
  have z2 : ((n2 : Int) == 0) = false := beq_eq_false_iff_ne.2 (by omega)
  clear hg
  go_wp2_with fail
  have q1 : ∀ o, (W2.alloc o).cell? ⟨w.heap.size, 0, none⟩ = some (.slice A sha.length c) := fun o => (xa.alloc o).c0
  have q2 : ∀ o o', ((W2.alloc o).alloc o').cell? ⟨w.heap.size, 0, none⟩ = some (.slice A sha.length c) := fun o o' => ((xa.alloc o).alloc o').c0
  have lt := xa.lt
  have q3 : w.heap.size ≠ W2.heap.size := by omega
  have q4 : w.heap.size ≠ W2.heap.size + 1 := by omega
  refine' merge2 (G := _) (H := fun b7 b8 V => b7 ≠ b8 ∧ w.heap.size < b7 ∧ w.heap.size < b8 ∧ Box2 V w.heap.size 26 (.slice A sha.length c) (.slice A' ea.length c') ∧ Box2 V b7 26 (.slice A sha.length c) (.slice none 0 0) ∧ Box2 V b8 26 (.slice A sha.length c) (.slice none 0 0) ∧ Hold (fun u => TV sha ea u (.slice A sha.length c) (.slice A' ea.length c')) V ∧ Fr (fun k => k < w.heap.size) w V) ?h ?k
  case h =>
    intro key
    have al := fun R => (((Fr.refl R W2).alloc (.cells #[.slice A sha.length c, .slice none 0 0] 26)).alloc (.cells #[.slice A sha.length c, .slice none 0 0] 26)).drew
    have x7 := ((Box2.new W2 26 (.slice A sha.length c) (.slice none 0 0)).alloc (.cells #[.slice A sha.length c, .slice none 0 0] 26)).keep ((Fr.refl _ _).drew)
    have x8 := (Box2.new (W2.alloc (.cells #[.slice A sha.length c, .slice none 0 0] 26)) 26 (.slice A sha.length c) (.slice none 0 0)).keep ((Fr.refl _ _).drew)
    have ya := xa.keep (al _)
    have HA' := HA.keep (al _)
    have F' := fr_then F (al _)
    simp only [World.size_alloc] at x8
    have hyp1 := And.intro (show W2.heap.size ≠ W2.heap.size + 1 by omega) (And.intro lt (And.intro (show w.heap.size < W2.heap.size + 1 by omega) (And.intro ya (And.intro x7 (And.intro x8 (And.intro HA' F'))))))
    have hyp2 := And.intro (show W2.heap.size + 1 ≠ W2.heap.size by omega) (And.intro (show w.heap.size < W2.heap.size + 1 by omega) (And.intro lt (And.intro ya (And.intro x8 (And.intro x7 (And.intro HA' F'))))))
    clear al x7 x8 ya HA' F'
    go_region
    case' _ =>
      generalize ((W2.alloc (.cells #[.slice A sha.length c, .slice none 0 0] 26)).alloc (.cells #[.slice A sha.length c, .slice none 0 0] 26)).drew = V at hyp1 ⊢
      generalize W2.heap.size + 1 = b8 at hyp1 ⊢
      generalize W2.heap.size = b7 at hyp1 ⊢
      exact key b7 b8 V hyp1
    exact key (W2.heap.size + 1) W2.heap.size _ hyp2
  case k =>
    clear xa HA F p0 p1 q1 q2 q3 q4 lt z1 z2
    rintro b7 b8 V ⟨hne, l7, l8, xa, x7, x8, HA, F⟩
    have LA := Lib.hid (show Sl Im (fun k => k < w.heap.size) V (.slice A sha.length c) sha ∧ Sl Rm (fun k => k < w.heap.size) V (.slice A' ea.length c') ea from ⟨HAl.out.1.fr F, HAl.out.2.fr F⟩)
    have LE := Lib.hid (show Sl Rm (fun k => k < w.heap.size) V (.slice B n1 d) el from HLl.out.fr F)
    have LM := Lib.hid (show Sl Rm (fun k => k < w.heap.size) V (.slice C n2 g) em from HLm.out.fr F)
    have lV := xa.lt
    have lV7 := x7.lt
    have lV8 := x8.lt
    have GV := Fr.refl (fun k => k < w.heap.size) V
    have hel := FA.out.nes
    have HT1 := Lib.hid (Rm_lt LE.out)
    have HT2 := Lib.hid (Rm_lt LM.out)
    clear HA HLl HLm HAl
    go_wp2_with fail
    go_loopw [9] (fun k W => ∃ (j : Nat) (v1 v2 : Value), k = .int .i64 j ∧ j ≤ ea.length ∧ Box2 W w.heap.size 26 (.slice A sha.length c) (.slice A' ea.length c') ∧ Box2 W b7 26 (.slice A sha.length c) v1 ∧ Box2 W b8 26 (.slice A sha.length c) v2 ∧ Own Rm 51 (fun k => V.heap.size ≤ k ∧ some k ≠ v2.ownBlock) W v1 ((rot el j).map canR) ∧ Own Rm 51 (fun k => V.heap.size ≤ k ∧ some k ≠ v1.ownBlock) W v2 ((rot em j).map canR) ∧ Hid (LensL 6 (rot el j) ∧ LensL 6 (rot em j)) ∧ Fr (fun k => k < w.heap.size) V W) (fun k _ => ea.length - (intOf k).toNat)
    case atStart => exact ⟨0, _, _, rfl, by omega, xa, x7, x8, Own.nil _ _ _ _, Own.nil _ _ _ _, Lib.hid ⟨fun q hq => by simp [rot] at hq, fun q hq => by simp [rot] at hq⟩, GV⟩
    case round =>
      clear xa x7 x8 GV
      obtain ⟨j, v1, v2, rfl, hj, xa, x7, x8, o1, o2, HQ, GV⟩ := hrel
      have szW := GV.size
      have p1 := xa.c1
      by_cases hlt : j < ea.length
      · have hm1 : j % el.length < el.length := Nat.mod_lt _ (by rw [HN1.out]; exact k1)
        have hm2 : j % em.length < em.length := Nat.mod_lt _ (by rw [HN2.out]; exact k2)
        have hs1 := rot_step el j hm1
        have hs2 := rot_step em j hm2
        have lx := HXl.out _ (List.getElem_mem hm1)
        have ly := HXm.out _ (List.getElem_mem hm2)
        have tx := HT1.out _ (List.getElem_mem hm1)
        have ty := HT2.out _ (List.getElem_mem hm2)
        obtain ⟨ad, P, n, d1, Q, m, o, hB, hS, g0, g1, g2, r1, r2⟩ := Rm_get (show Sl Rm (fun k => k < w.heap.size) V (.slice B el.length d) el by rw [HN1.out]; exact LE.out) hm1
        obtain ⟨ae, P9, n9, d9, Q9, m9, o9, hC, hS9, h0, h1, h2, r3, r4⟩ := Rm_get (show Sl Rm (fun k => k < w.heap.size) V (.slice C em.length g) em by rw [HN2.out]; exact LM.out) hm2
        replace g0 := GV.cell g0 (by rw [addr_block]; exact hS)
        replace g1 := GV.cell g1 (by show (ad.add _).block < _; rw [addr_block]; exact hS)
        replace g2 := GV.cell g2 (by show (ad.add _).block < _; rw [addr_block]; exact hS)
        replace h0 := GV.cell h0 (by rw [addr_block]; exact hS9)
        replace h1 := GV.cell h1 (by show (ae.add _).block < _; rw [addr_block]; exact hS9)
        replace h2 := GV.cell h2 (by show (ae.add _).block < _; rw [addr_block]; exact hS9)
        generalize el[j % el.length] = x at g0 r1 r2 hs1 lx tx
        generalize em[j % em.length] = y at h0 r3 r4 hs2 ly ty
        have hr1 : (j : Int).tmod (n1 : Int) = ((j % el.length : Nat) : Int) := by rw [HN1.out]; exact (Int.ofNat_tmod j n1).symm
        have hr2 : (j : Int).tmod (n2 : Int) = ((j % em.length : Nat) : Int) := by rw [HN2.out]; exact (Int.ofNat_tmod j n2).symm
        generalize j % el.length = m1 at hm1 hr1 g0 g1 g2
        generalize j % em.length = m2 at hm2 hr2 h0 h1 h2
        rw [HN1.out] at hm1
        rw [HN2.out] at hm2
        subst hB
        subst hC
        have nz1 : n1 ≠ 0 := by omega
        have nz2 : n2 ≠ 0 := by omega
        have AC : ∀ {p : Addr} {v : Value} (o o' : Obj), wr.cell? p = some v → (wr.alloc o).cell? p = some v ∧ ((wr.alloc o).alloc o').cell? p = some v := fun {p v} o o' h => ⟨((Fr.refl (fun _ => True) wr).alloc o).cell h trivial, (((Fr.refl (fun _ => True) wr).alloc o).alloc o').cell h trivial⟩
        have ag0 : ∀ o', (wr.alloc o').cell? (ad.add (m1 * 3)) = some (.bool x.1) := fun o' => (AC o' o' g0).1
        have bg0 : ∀ o' o'', ((wr.alloc o').alloc o'').cell? (ad.add (m1 * 3)) = some (.bool x.1) := fun o' o'' => (AC o' o'' g0).2
        have ag1 : ∀ o', (wr.alloc o').cell? (⟨(ad.add (m1 * 3)).block, (ad.add (m1 * 3)).off + 1, none⟩) = some (.slice P n d1) := fun o' => (AC o' o' g1).1
        have bg1 : ∀ o' o'', ((wr.alloc o').alloc o'').cell? (⟨(ad.add (m1 * 3)).block, (ad.add (m1 * 3)).off + 1, none⟩) = some (.slice P n d1) := fun o' o'' => (AC o' o'' g1).2
        have ag2 : ∀ o', (wr.alloc o').cell? (⟨(ad.add (m1 * 3)).block, (ad.add (m1 * 3)).off + 2, none⟩) = some (.slice Q m o) := fun o' => (AC o' o' g2).1
        have bg2 : ∀ o' o'', ((wr.alloc o').alloc o'').cell? (⟨(ad.add (m1 * 3)).block, (ad.add (m1 * 3)).off + 2, none⟩) = some (.slice Q m o) := fun o' o'' => (AC o' o'' g2).2
        have ah0 : ∀ o', (wr.alloc o').cell? (ae.add (m2 * 3)) = some (.bool y.1) := fun o' => (AC o' o' h0).1
        have bh0 : ∀ o' o'', ((wr.alloc o').alloc o'').cell? (ae.add (m2 * 3)) = some (.bool y.1) := fun o' o'' => (AC o' o'' h0).2
        have ah1 : ∀ o', (wr.alloc o').cell? (⟨(ae.add (m2 * 3)).block, (ae.add (m2 * 3)).off + 1, none⟩) = some (.slice P9 n9 d9) := fun o' => (AC o' o' h1).1
        have bh1 : ∀ o' o'', ((wr.alloc o').alloc o'').cell? (⟨(ae.add (m2 * 3)).block, (ae.add (m2 * 3)).off + 1, none⟩) = some (.slice P9 n9 d9) := fun o' o'' => (AC o' o'' h1).2
        have ah2 : ∀ o', (wr.alloc o').cell? (⟨(ae.add (m2 * 3)).block, (ae.add (m2 * 3)).off + 2, none⟩) = some (.slice Q9 m9 o9) := fun o' => (AC o' o' h2).1
        have bh2 : ∀ o' o'', ((wr.alloc o').alloc o'').cell? (⟨(ae.add (m2 * 3)).block, (ae.add (m2 * 3)).off + 2, none⟩) = some (.slice Q9 m9 o9) := fun o' o'' => (AC o' o'' h2).2
        clear AC
        go_wp2_with fail
        refine' merge2 (G := _) (H := fun b c U => wr.heap.size ≤ b ∧ wr.heap.size ≤ c ∧ Box3 U b 51 (.bool x.1) (.slice P n d1) (.slice Q m o) ∧ Box3 U c 51 (.bool y.1) (.slice P9 n9 d9) (.slice Q9 m9 o9) ∧ Fr (fun k => k < wr.heap.size) wr U) ?h ?k
        case h =>
          intro key
          have DR : ∀ (W : World) R, Fr R W W.drew := fun W R => (Fr.refl R W).drew
          have L1 := Nat.le_refl wr.heap.size
          have L2 := Nat.le_succ wr.heap.size
          have hF1 := (((Fr.refl (fun k => k < wr.heap.size) wr).alloc (.cells #[.bool x.1, .slice P n d1, .slice Q m o] 51)).alloc (.cells #[.bool y.1, .slice P9 n9 d9, .slice Q9 m9 o9] 51)).drew
          have hF2 := (((Fr.refl (fun k => k < wr.heap.size) wr).alloc (.cells #[.bool y.1, .slice P9 n9 d9, .slice Q9 m9 o9] 51)).alloc (.cells #[.bool x.1, .slice P n d1, .slice Q m o] 51)).drew
          have hyp1 := And.intro (((Box3.new wr 51 (.bool x.1) (.slice P n d1) (.slice Q m o)).alloc (.cells #[.bool y.1, .slice P9 n9 d9, .slice Q9 m9 o9] 51)).keep (DR _ _)) ((Box3.new (wr.alloc (.cells #[.bool x.1, .slice P n d1, .slice Q m o] 51)) 51 (.bool y.1) (.slice P9 n9 d9) (.slice Q9 m9 o9)).keep (DR _ _))
          have hyp2 := And.intro ((Box3.new (wr.alloc (.cells #[.bool y.1, .slice P9 n9 d9, .slice Q9 m9 o9] 51)) 51 (.bool x.1) (.slice P n d1) (.slice Q m o)).keep (DR _ _)) (((Box3.new wr 51 (.bool y.1) (.slice P9 n9 d9) (.slice Q9 m9 o9)).alloc (.cells #[.bool x.1, .slice P n d1, .slice Q m o] 51)).keep (DR _ _))
          simp only [World.size_alloc] at hyp1 hyp2
          clear DR
          go_region
          case' _ =>
            generalize ((wr.alloc (.cells #[.bool x.1, .slice P n d1, .slice Q m o] 51)).alloc (.cells #[.bool y.1, .slice P9 n9 d9, .slice Q9 m9 o9] 51)).drew = V9 at hyp1 hF1 ⊢
            obtain ⟨b11, hb11⟩ : ∃ b, wr.heap.size + 1 = b := ⟨_, rfl⟩
            obtain ⟨b10, hb10⟩ : ∃ b, wr.heap.size = b := ⟨_, rfl⟩
            rw [hb11] at hyp1 ⊢
            rw [hb10] at hyp1 ⊢
            replace L1 : wr.heap.size ≤ b10 := by omega
            replace L2 : wr.heap.size ≤ b11 := by omega
            clear hb10 hb11
            exact key b10 b11 V9 ⟨L1, L2, hyp1.1, hyp1.2, hF1⟩
          exact key (wr.heap.size + 1) wr.heap.size _ ⟨by omega, by omega, hyp2.1, hyp2.2, hF2⟩
        case k =>
          clear p1 g0 g1 g2 h0 h1 h2 ag0 ag1 ag2 bg0 bg1 bg2 ah0 ah1 ah2 bh0 bh1 bh2 hr1 hr2 nz1 nz2
          rintro b10 b11 U ⟨l10, l11, z10, z11, hf⟩
          have e1 : n = x.2.1.length := by obtain ⟨_, _, e, _⟩ := r1.slice; cases e; rfl
          have e2 : m = x.2.2.length := by obtain ⟨_, _, e, _⟩ := r2.slice; cases e; rfl
          have e3 : n9 = y.2.1.length := by obtain ⟨_, _, e, _⟩ := r3.slice; cases e; rfl
          have e4 : m9 = y.2.2.length := by obtain ⟨_, _, e, _⟩ := r4.slice; cases e; rfl
          have f1 : n ≤ 9223372036854775807 := by have := FA.out.top; omega
          have f2 : m ≤ 9223372036854775807 := by have := FA.out.top; omega
          have f3 : n9 ≤ 9223372036854775807 := by have := FA.out.top; omega
          have f4 : m9 ≤ 9223372036854775807 := by have := FA.out.top; omega
          have HL1 := Lib.hid (And.intro r1 r2)
          have HL2 := Lib.hid (And.intro r3 r4)
          have HE := Lib.hid (show n ≤ 6 ∧ m ≤ 6 ∧ n9 ≤ 6 ∧ m9 ≤ 6 → Lens 6 (qOf x) ∧ Lens 6 (qOf y) from fun h => ⟨qOf_len tx (by omega) (by omega) (by omega), qOf_len ty (by omega) (by omega) (by omega)⟩)
          have HS1 := Lib.hid hs1
          have HS2 := Lib.hid hs2
          have lo1 := o1.lt
          have lo2 := o2.lt
          replace xa := xa.keep hf
          replace x7 := x7.keep hf
          replace x8 := x8.keep hf
          replace o1 := o1.keep' hf
          replace o2 := o2.keep' hf
          replace GV := fr_then GV hf
          have HLX := Lib.hid lx
          have HLY := Lib.hid ly
          clear r1 r2 r3 r4 hf e1 e2 e3 e4 hs1 hs2 lx ly tx ty
          have w0 := z10.c1
          have w1 := z10.c2
          have w2 := z11.c1
          have w3 := z11.c2
          by_cases hg : 6 < n ∨ 6 < m ∨ 6 < n9 ∨ 6 < m9
          · have F9 := F.trans GV
            by_cases h1 : 6 < n
            · go_wp2_with fail
              with_reducible refine (KN _ F9).mono ?_
              rintro e V9 ⟨rfl, F9⟩
              go_wp2_with fail
              go_ret
              exact ⟨rfl, F9⟩
            · by_cases h2 : 6 < m
              · go_wp2_with fail
                with_reducible refine (KN _ F9).mono ?_
                rintro e V9 ⟨rfl, F9⟩
                go_wp2_with fail
                go_ret
                exact ⟨rfl, F9⟩
              · by_cases h3 : 6 < n9
                · go_wp2_with fail
                  with_reducible refine (KN _ F9).mono ?_
                  rintro e V9 ⟨rfl, F9⟩
                  go_wp2_with fail
                  go_ret
                  exact ⟨rfl, F9⟩
                · have h4 : 6 < m9 := by omega
                  go_wp2_with fail
                  with_reducible refine (KN _ F9).mono ?_
                  rintro e V9 ⟨rfl, F9⟩
                  go_wp2_with fail
                  go_ret
                  exact ⟨rfl, F9⟩
          have g1 : n ≤ 6 := by omega
          have g2 : m ≤ 6 := by omega
          have g3 : n9 ≤ 6 := by omega
          have g4 : m9 ≤ 6 := by omega
          have HE' := Lib.hid (HE.out ⟨g1, g2, g3, g4⟩)
          clear hg HE
          go_wp2_with fail
          clear w0 w1 w2 w3
          go_wp2_with fail
          have DW := fun R => (Fr.refl R U).drew
          replace xa := xa.keep (DW _)
          replace x7 := x7.keep (DW _)
          replace x8 := x8.keep (DW _)
          replace z10 := z10.keep (DW _)
          replace z11 := z11.keep (DW _)
          replace o1 := o1.keep' (DW _)
          replace o2 := o2.keep' (DW _)
          replace GV := GV.drew
          clear DW
          obtain ⟨A10, i10, q10, rfl⟩ := o1.form
          have ltm := o1.lt
          have lto := o2.lt
          have inm := o1.in_
          have szU := GV.size
          refine wpTill.begin (fun _ => True) 6 (by kernel_rfl) ?_
          change wpTill _ _ _ _ _ _ 9 _ _ _
          refine wpTill.free (jj := 6) (m := 3) [(0, Fact.eq (.pointer (some ⟨b7, 1, none⟩))),
      (1, Fact.eq (.slice A10 i10 q10)),
      (2, Fact.eq (.agg #[.bool x.1, .slice P n d1, .slice Q m o])),
      (3, Fact.held (RQ (qOf x) (3 * (L + 2)))),
      (4, Fact.held (OQ U.drew.heap.size (qOf x))),
      (5, Fact.held (OneE U.drew.heap.size (qOf x)))] [] [0, 1, 0, 4, 12, 28, 63, 127, 255] [] ?_ (by kernel_rfl) (by kernel_rfl) (by kernel_rfl) [(0, some 107), (1, some 108), (2, some 109), (3, some 110), (4, some 111), (5, some 112)] (by kernel_rfl) ?hA1 ?hQ1 (fun _ _ => trivial) (by kernel_rfl) ?steps1 ?looses1 ?cont1
          case hQ1 => exact fun _ _ _ _ _ h => h
          case hA1 =>
            intro vs
            simp only [fillD, List.foldl_cons, List.foldl_nil, Act.put, List.setIfInBounds_toArray, List.set_cons_zero, List.set_cons_succ]
            exact rfl
          case steps1 =>
            refine ⟨?_, ?_, ?_, ?_, ?_, ?_, trivial⟩
            · rintro vs u ⟨hV0, hV1, hV2, hV3, hV4, hV5, -⟩ G
              exact stepAt.pure (v := .pointer (some ⟨b7, 1, none⟩)) rfl rfl (by go_simp) rfl
            · rintro vs u ⟨hV0, hV1, hV2, hV3, hV4, hV5, -⟩ G
              have a0 := (x7.keep G).c1
              have eV0 : vs 0 = .pointer (some ⟨b7, 1, none⟩) := hV0 rfl
              exact stepAt.pure (v := .slice A10 i10 q10) rfl rfl (by simp only [eV0]; go_simp) rfl
            · rintro vs u ⟨hV0, hV1, hV2, hV3, hV4, hV5, -⟩ G
              have a0 := (z10.keep G).c0
              have a1 := (z10.keep G).c1
              have a2 := (z10.keep G).c2
              exact stepAt.pure (v := .agg #[.bool x.1, .slice P n d1, .slice Q m o]) rfl rfl (by go_simp) rfl
            · rintro vs u ⟨hV0, hV1, hV2, hV3, hV4, hV5, -⟩ G
              refine stepAt.call (f := 36) (args := #[vs 2]) rfl rfl (by go_simp) ?_
              have eV2 : vs 2 = .agg #[.bool x.1, .slice P n d1, .slice Q m o] := hV2 rfl
              rw [eV2]
              exact rof_u (x := x) ⟨(HL1.out.1.fr (fr_then GV G)).any, (HL1.out.2.fr (fr_then GV G)).any⟩ HLX (by omega) (by omega)
            · rintro vs u ⟨hV0, hV1, hV2, hV3, hV4, hV5, -⟩ G
              refine stepAt.call (f := 39) (args := #[vs 3]) rfl rfl (by go_simp) ?_
              have HV3 : Hold (fun u' => (RQ (qOf x) (3 * (L + 2))) u' (vs 3)) u := hV3 rfl
              obtain ⟨A3, n3, c3, B3, m3, k3, eV3, -⟩ := HV3.now
              rw [eV3] at HV3
              rw [eV3]
              exact rback_u HV3.now rfl G.size (by omega) HE'.out.1
            · rintro vs u ⟨hV0, hV1, hV2, hV3, hV4, hV5, -⟩ G
              have HV4 : Hold (fun u' => (OQ U.drew.heap.size (qOf x)) u' (vs 4)) u := hV4 rfl
              obtain ⟨A4, n4, c4, B4, m4, k4, eV4, -⟩ := HV4.now
              rw [eV4] at HV4
              exact stepAt.value (v := .slice (some ⟨u.heap.size, 0, none⟩) 1 1) (u := u.alloc (.cells #[.bool (sg (qOf x)), .slice A4 n4 c4, .slice B4 m4 k4] 51)) rfl rfl (by simp only [eV4]; go_simp) ((Fr.refl _ _).alloc _) (one_e HV4.now.out G.size)
          case looses1 =>
            exact trivial
          rintro vs u ⟨hV0, hV1, hV2, hV3, hV4, hV5, -⟩ G
          have eV0 : vs 0 = .pointer (some ⟨b7, 1, none⟩) := hV0
          have eV1 : vs 1 = .slice A10 i10 q10 := hV1
          have eV2 : vs 2 = .agg #[.bool x.1, .slice P n d1, .slice Q m o] := hV2
          replace hV3 : Hold (fun u' => (RQ (qOf x) (3 * (L + 2))) u' (vs 3)) u := hV3
          obtain ⟨A3, n3, c3, B3, m3, k3, eV3, -⟩ := hV3.now
          rw [eV3] at hV3
          replace hV4 : Hold (fun u' => (OQ U.drew.heap.size (qOf x)) u' (vs 4)) u := hV4
          obtain ⟨A4, n4, c4, B4, m4, k4, eV4, -⟩ := hV4.now
          rw [eV4] at hV4
          replace hV5 : Hold (fun u' => (OneE U.drew.heap.size (qOf x)) u' (vs 5)) u := hV5
          obtain ⟨b5, eV5, -⟩ := hV5.now
          rw [eV5] at hV5
          simp only [eV0, eV1, eV2, eV3, eV4, eV5]
          clear eV0 eV1 eV2 eV3 eV4 eV5 hV0 hV1 hV2
          obtain ⟨b9, e9, sl9⟩ := hV5.now
          cases e9
          have szu := G.size
          replace xa := xa.keep G
          replace x7 := x7.keep G
          replace x8 := x8.keep G
          replace z10 := z10.keep G
          replace z11 := z11.keep G
          replace o1 := o1.keep' G
          replace o2 := o2.keep' G
          replace GV := fr_then GV G
          have oo := o2.bd
          clear hV3 hV4 hV5 G
          refine wpTill.next 6 rfl (by kernel_rfl) (by rfl) (fun K hK => ?_)
          refine oper_push rmT (v := .slice A10 i10 q10) (xv := .slice (some ⟨b5, 0, none⟩) 1 1) (S := (fun k => V.heap.size ≤ k ∧ some k ≠ (v2).ownBlock)) (T := fun k => U.drew.heap.size ≤ k) rfl rfl rfl o1 sl9 (fun z cs hr => Rm.mono (fun k hk => ⟨⟨by omega, fun e => by have := lto k e.symm; omega⟩, fun e => by have := ltm k e.symm; omega⟩) hr) (fun k hk => ⟨by omega, fun e => by have := lto k e.symm; omega⟩) (by rw [List.length_map, rot_len]; simp only [List.length_singleton]; omega) (by rw [List.length_map, rot_len]; simp only [List.length_singleton]; omega) ?_
          intro v7 u3 ho hfr hat
          obtain ⟨A9, i9, q9, rfl⟩ := ho.form
          refine hK _ _ (no_wait (by kernel_rfl)) ?_
          clear hK K
          try simp only [Act.put, List.setIfInBounds_toArray, List.set_cons_zero, List.set_cons_succ]
          have NB : ∀ b, b < V.heap.size → some b ≠ (Value.slice A10 i10 q10).ownBlock := fun b hb e => by have := (inm _ e.symm).1; omega
          replace xa := xa.fr hfr (NB _ lV)
          replace x7 := x7.fr hfr (NB _ lV7)
          replace x8 := x8.fr hfr (NB _ lV8)
          replace z10 := z10.fr hfr (fun e => by have := lo1 _ e.symm; omega)
          replace z11 := z11.fr hfr (fun e => by have := lo1 _ e.symm; omega)
          replace GV := GV.comp hfr (R := fun k => k < w.heap.size) fun k _ hk => ⟨hk, NB k (by omega)⟩
          have e0 := x7.c1
          have e1 := x7.free 1
          refine wpTill.next 7 rfl (by kernel_rfl) (by rfl) (fun K hK => ?_)
          go_simp
          refine hK _ _ (no_wait (by kernel_rfl)) ?_
          clear hK K
          refine wpTill.next 8 rfl (by kernel_rfl) (by rfl) (fun K hK => ?_)
          go_simp
          refine hK _ _ (no_wait (by kernel_rfl)) ?_
          clear hK K
          refine wpTill.done (by kernel_rfl) ?_
          clear e0 e1
          have F9 := fr_set1 u3 b7 1 (.slice A9 i9 q9)
          replace xa := xa.fr F9 (by omega)
          replace x7 := x7.set1 (.slice A9 i9 q9)
          replace x8 := x8.fr F9 (by omega)
          replace z10 := z10.fr F9 (by omega)
          replace z11 := z11.fr F9 (by omega)
          replace GV := GV.comp F9 (R := fun k => k < w.heap.size) fun k _ hk => ⟨hk, by omega⟩
          replace o1 := ho.past F9 (fun k hk => by have := hk.1; omega)
          replace o2 := ((oo.fr (hfr.mono fun k _ hk => hk.1.2)).past F9 (fun k hk => by have := hk.1.1; omega)).mono (T := fun k => V.heap.size ≤ k ∧ some k ≠ (Value.slice A9 i9 q9).ownBlock) (fun k hk => ⟨hk.1.1, by
            rcases hat with e | ⟨b, e, hb⟩
            · rw [e]; exact hk.1.2
            · rw [e]; intro e'; cases e'; omega⟩)
          clear ho hfr hat oo NB F9 sl9 ltm lto inm szU szu
          generalize u3.setCell ⟨b7, 1, none⟩ (.slice A9 i9 q9) = U2 at *
          go_wp2_with fail
          have DW := fun R => (Fr.refl R U2).drew
          replace xa := xa.keep (DW _)
          replace x7 := x7.keep (DW _)
          replace x8 := x8.keep (DW _)
          replace z10 := z10.keep (DW _)
          replace z11 := z11.keep (DW _)
          replace o1 := o1.keep' (DW _)
          replace o2 := o2.keep' (DW _)
          replace GV := GV.drew
          clear DW
          obtain ⟨A11, i11, q11, rfl⟩ := o2.form
          have ltm := o2.lt
          have lto := o1.lt
          have inm := o2.in_
          have szU := GV.size
          refine wpTill.begin (fun _ => True) 6 (by kernel_rfl) ?_
          change wpTill _ _ _ _ _ _ 9 _ _ _
          refine wpTill.free (jj := 6) (m := 3) [(0, Fact.eq (.pointer (some ⟨b8, 1, none⟩))),
      (1, Fact.eq (.slice A11 i11 q11)),
      (2, Fact.eq (.agg #[.bool y.1, .slice P9 n9 d9, .slice Q9 m9 o9])),
      (3, Fact.held (RQ (qOf y) (3 * (L + 2)))),
      (4, Fact.held (OQ U2.drew.heap.size (qOf y))),
      (5, Fact.held (OneE U2.drew.heap.size (qOf y)))] [] [0, 1, 0, 4, 12, 28, 63, 127, 255] [] ?_ (by kernel_rfl) (by kernel_rfl) (by kernel_rfl) [(0, some 115), (1, some 116), (2, some 117), (3, some 118), (4, some 119), (5, some 120)] (by kernel_rfl) ?hA2 ?hQ2 (fun _ _ => trivial) (by kernel_rfl) ?steps2 ?looses2 ?cont2
          case hQ2 => exact fun _ _ _ _ _ h => h
          case hA2 =>
            intro vs
            simp only [fillD, List.foldl_cons, List.foldl_nil, Act.put, List.setIfInBounds_toArray, List.set_cons_zero, List.set_cons_succ]
            exact rfl
          case steps2 =>
            refine ⟨?_, ?_, ?_, ?_, ?_, ?_, trivial⟩
            · rintro vs u ⟨hV0, hV1, hV2, hV3, hV4, hV5, -⟩ G
              exact stepAt.pure (v := .pointer (some ⟨b8, 1, none⟩)) rfl rfl (by go_simp) rfl
            · rintro vs u ⟨hV0, hV1, hV2, hV3, hV4, hV5, -⟩ G
              have a0 := (x8.keep G).c1
              have eV0 : vs 0 = .pointer (some ⟨b8, 1, none⟩) := hV0 rfl
              exact stepAt.pure (v := .slice A11 i11 q11) rfl rfl (by simp only [eV0]; go_simp) rfl
            · rintro vs u ⟨hV0, hV1, hV2, hV3, hV4, hV5, -⟩ G
              have a0 := (z11.keep G).c0
              have a1 := (z11.keep G).c1
              have a2 := (z11.keep G).c2
              exact stepAt.pure (v := .agg #[.bool y.1, .slice P9 n9 d9, .slice Q9 m9 o9]) rfl rfl (by go_simp) rfl
            · rintro vs u ⟨hV0, hV1, hV2, hV3, hV4, hV5, -⟩ G
              refine stepAt.call (f := 36) (args := #[vs 2]) rfl rfl (by go_simp) ?_
              have eV2 : vs 2 = .agg #[.bool y.1, .slice P9 n9 d9, .slice Q9 m9 o9] := hV2 rfl
              rw [eV2]
              exact rof_u (x := y) ⟨(HL2.out.1.fr (fr_then GV G)).any, (HL2.out.2.fr (fr_then GV G)).any⟩ HLY (by omega) (by omega)
            · rintro vs u ⟨hV0, hV1, hV2, hV3, hV4, hV5, -⟩ G
              refine stepAt.call (f := 39) (args := #[vs 3]) rfl rfl (by go_simp) ?_
              have HV3 : Hold (fun u' => (RQ (qOf y) (3 * (L + 2))) u' (vs 3)) u := hV3 rfl
              obtain ⟨A3, n3, c3, B3, m3, k3, eV3, -⟩ := HV3.now
              rw [eV3] at HV3
              rw [eV3]
              exact rback_u HV3.now rfl G.size (by omega) HE'.out.2
            · rintro vs u ⟨hV0, hV1, hV2, hV3, hV4, hV5, -⟩ G
              have HV4 : Hold (fun u' => (OQ U2.drew.heap.size (qOf y)) u' (vs 4)) u := hV4 rfl
              obtain ⟨A4, n4, c4, B4, m4, k4, eV4, -⟩ := HV4.now
              rw [eV4] at HV4
              exact stepAt.value (v := .slice (some ⟨u.heap.size, 0, none⟩) 1 1) (u := u.alloc (.cells #[.bool (sg (qOf y)), .slice A4 n4 c4, .slice B4 m4 k4] 51)) rfl rfl (by simp only [eV4]; go_simp) ((Fr.refl _ _).alloc _) (one_e HV4.now.out G.size)
          case looses2 =>
            exact trivial
          rintro vs u ⟨hV0, hV1, hV2, hV3, hV4, hV5, -⟩ G
          have eV0 : vs 0 = .pointer (some ⟨b8, 1, none⟩) := hV0
          have eV1 : vs 1 = .slice A11 i11 q11 := hV1
          have eV2 : vs 2 = .agg #[.bool y.1, .slice P9 n9 d9, .slice Q9 m9 o9] := hV2
          replace hV3 : Hold (fun u' => (RQ (qOf y) (3 * (L + 2))) u' (vs 3)) u := hV3
          obtain ⟨A3, n3, c3, B3, m3, k3, eV3, -⟩ := hV3.now
          rw [eV3] at hV3
          replace hV4 : Hold (fun u' => (OQ U2.drew.heap.size (qOf y)) u' (vs 4)) u := hV4
          obtain ⟨A4, n4, c4, B4, m4, k4, eV4, -⟩ := hV4.now
          rw [eV4] at hV4
          replace hV5 : Hold (fun u' => (OneE U2.drew.heap.size (qOf y)) u' (vs 5)) u := hV5
          obtain ⟨b5, eV5, -⟩ := hV5.now
          rw [eV5] at hV5
          simp only [eV0, eV1, eV2, eV3, eV4, eV5]
          clear eV0 eV1 eV2 eV3 eV4 eV5 hV0 hV1 hV2
          obtain ⟨b9, e9, sl9⟩ := hV5.now
          cases e9
          have szu := G.size
          replace xa := xa.keep G
          replace x7 := x7.keep G
          replace x8 := x8.keep G
          replace z10 := z10.keep G
          replace z11 := z11.keep G
          replace o1 := o1.keep' G
          replace o2 := o2.keep' G
          replace GV := fr_then GV G
          have oo := o1.bd
          clear hV3 hV4 hV5 G
          refine wpTill.next 6 rfl (by kernel_rfl) (by rfl) (fun K hK => ?_)
          refine oper_push rmT (v := .slice A11 i11 q11) (xv := .slice (some ⟨b5, 0, none⟩) 1 1) (S := (fun k => V.heap.size ≤ k ∧ some k ≠ (Value.slice A9 i9 q9).ownBlock)) (T := fun k => U2.drew.heap.size ≤ k) rfl rfl rfl o2 sl9 (fun z cs hr => Rm.mono (fun k hk => ⟨⟨by omega, fun e => by have := lto k e.symm; omega⟩, fun e => by have := ltm k e.symm; omega⟩) hr) (fun k hk => ⟨by omega, fun e => by have := lto k e.symm; omega⟩) (by rw [List.length_map, rot_len]; simp only [List.length_singleton]; omega) (by rw [List.length_map, rot_len]; simp only [List.length_singleton]; omega) ?_
          intro v7 u3 ho hfr hat
          obtain ⟨A9, i9, q9, rfl⟩ := ho.form
          refine hK _ _ (no_wait (by kernel_rfl)) ?_
          clear hK K
          try simp only [Act.put, List.setIfInBounds_toArray, List.set_cons_zero, List.set_cons_succ]
          have NB : ∀ b, b < V.heap.size → some b ≠ (Value.slice A11 i11 q11).ownBlock := fun b hb e => by have := (inm _ e.symm).1; omega
          replace xa := xa.fr hfr (NB _ lV)
          replace x7 := x7.fr hfr (NB _ lV7)
          replace x8 := x8.fr hfr (NB _ lV8)
          replace z10 := z10.fr hfr (fun e => by have := lo2 _ e.symm; omega)
          replace z11 := z11.fr hfr (fun e => by have := lo2 _ e.symm; omega)
          replace GV := GV.comp hfr (R := fun k => k < w.heap.size) fun k _ hk => ⟨hk, NB k (by omega)⟩
          have e0 := x8.c1
          have e1 := x8.free 1
          refine wpTill.next 7 rfl (by kernel_rfl) (by rfl) (fun K hK => ?_)
          go_simp
          refine hK _ _ (no_wait (by kernel_rfl)) ?_
          clear hK K
          refine wpTill.next 8 rfl (by kernel_rfl) (by rfl) (fun K hK => ?_)
          go_simp
          refine hK _ _ (no_wait (by kernel_rfl)) ?_
          clear hK K
          refine wpTill.done (by kernel_rfl) ?_
          clear e0 e1
          have F9 := fr_set1 u3 b8 1 (.slice A9 i9 q9)
          replace xa := xa.fr F9 (by omega)
          replace x8 := x8.set1 (.slice A9 i9 q9)
          replace x7 := x7.fr F9 (by omega)
          replace z10 := z10.fr F9 (by omega)
          replace z11 := z11.fr F9 (by omega)
          replace GV := GV.comp F9 (R := fun k => k < w.heap.size) fun k _ hk => ⟨hk, by omega⟩
          replace o2 := ho.past F9 (fun k hk => by have := hk.1; omega)
          replace o1 := ((oo.fr (hfr.mono fun k _ hk => hk.1.2)).past F9 (fun k hk => by have := hk.1.1; omega)).mono (T := fun k => V.heap.size ≤ k ∧ some k ≠ (Value.slice A9 i9 q9).ownBlock) (fun k hk => ⟨hk.1.1, by
            rcases hat with e | ⟨b, e, hb⟩
            · rw [e]; exact hk.1.2
            · rw [e]; intro e'; cases e'; omega⟩)
          clear ho hfr hat oo NB F9 sl9 ltm lto inm szU szu
          generalize u3.setCell ⟨b8, 1, none⟩ (.slice A9 i9 q9) = U3 at *
          go_wp2_with fail
          go_roundw
          case rel => exact ⟨j + 1, _, _, by go_num, by omega, xa, x7, x8, by rw [rot_can HS1.out]; exact o1, by rw [rot_can HS2.out]; exact o2, Lib.hid ⟨by rw [HS1.out]; exact lensl_snoc HQ.out.1 HE'.out.1, by rw [HS2.out]; exact lensl_snoc HQ.out.2 HE'.out.2⟩, GV⟩
          case measure => first | (simp [intOf]; done) | (simp [intOf]; omega)
      · obtain rfl : j = ea.length := by omega
        obtain ⟨A1, i1, q1, rfl⟩ := o1.form
        obtain ⟨A2, i2, q2, rfl⟩ := o2.form
        have F1 := F.trans GV
        have hea := may_eq HR.out
        have hi2 : i2 = (rot em ea.length).length := by
          obtain ⟨_, _, e, _⟩ := o2.slice
          rw [List.length_map] at e
          cases e
          rfl
        have HX : Hold (fun u => TV sha ((ea.map qOf).map canR) u (.slice A sha.length c) (.slice A' ea.length c')) wr := TV.hold (by rw [← hea]; exact ⟨(LA.out.1.fr GV).any, (LA.out.2.fr GV).any⟩)
        have HY : Hold (fun u => TV sha ((rot el ea.length).map canR) u (.slice A sha.length c) (.slice A1 i1 q1)) wr := TV.hold ⟨(LA.out.1.fr GV).any, o1.sl.any⟩
        have HZ : Hold (fun u => TV sha ((rot em ea.length).map canR) u (.slice A sha.length c) (.slice A2 i2 q2)) wr := TV.hold ⟨(LA.out.1.fr GV).any, o2.sl.any⟩
        have hfew := of_decide_eq_true HB1.out
        have K3 := Lib.hid (show KF sha (ea.map qOf) 6 from ⟨FA.out.nsh, by rw [List.length_map]; exact FA.out.nes, by rw [← hea]; exact HR.out, fun q hq => by
          obtain ⟨x, hx, rfl⟩ := List.mem_map.1 hq
          exact qOf_len (FA.out.lt x hx) (hfew.2 x hx).1 (hfew.2 x hx).2 (by omega), by omega, by omega⟩)
        have K7 := Lib.hid (show KF sha (rot el ea.length) 6 from ⟨FA.out.nsh, by rw [rot_len]; exact FA.out.nes, may_can HR.out (rot_len _ _), HQ.out.1, by omega, by omega⟩)
        have K8 := Lib.hid (show KF sha (rot em ea.length) 6 from ⟨FA.out.nsh, by rw [rot_len]; exact FA.out.nes, may_can HR.out (rot_len _ _), HQ.out.2, by omega, by omega⟩)
        clear hea hfew HQ o1 o2 LA LE LM HT1 HT2 GV HXl HXm hlt hj
        generalize ea.map qOf = qx at *
        generalize rot el ea.length = qy at *
        generalize rot em ea.length = qz at *
        have KS := K3.out.zip lens_add K7.out (by omega) (by omega)
        have KP := KS.zip (K := 2 * (2 * 6 + 1)) lens_mul (K8.out.wide (N := 2 * 6 + 1) (by omega) (by omega)) (by omega) (by omega)
        have KQ := K3.out.zip lens_mul K8.out (by omega) (by omega)
        have KR := K7.out.zip lens_mul K8.out (by omega) (by omega)
        have KT := KQ.zip lens_add KR (by omega) (by omega)
        have KU := KS.zip lens_sub (K7.out.wide (N := 2 * 6 + 1) (by omega) (by omega)) (by omega) (by omega)
        have KV := KQ.zip (lens_div (by omega)) (K8.out.wide (N := 2 * 6) (by omega) (by omega)) (by omega) (by omega)
        have L12 := K3.out.len K7.out
        have L13 := K3.out.len K8.out
        have E1 := Lib.hid (field_1 L12 L13)
        have E2 := Lib.hid (field_2 L12)
        have E3 := Lib.hid (fun h0 => field_3 L13 h0)
        have I3 := Lib.hid (K3.out.wide (N := 64) (by omega) (by omega))
        have I7 := Lib.hid (K7.out.wide (N := 64) (by omega) (by omega))
        have I8 := Lib.hid (K8.out.wide (N := 64) (by omega) (by omega))
        have I12 := Lib.hid (KS.wide (N := 64) (by omega) (by omega))
        have I14 := Lib.hid (KP.wide (N := 64) (by omega) (by omega))
        have I16 := Lib.hid (KQ.wide (N := 64) (by omega) (by omega))
        have I18 := Lib.hid (KR.wide (N := 64) (by omega) (by omega))
        have I20 := Lib.hid (KT.wide (N := 64) (by omega) (by omega))
        have I22 := Lib.hid (KU.wide (N := 64) (by omega) (by omega))
        have I24 := Lib.hid (KV.wide (N := 64) (by omega) (by omega))
        clear K3 K7 K8 KS KP KQ KR KT KU KV L12 L13
        obtain ⟨r, hr⟩ : ∃ r, (if ∀ p ∈ qz, p ≠ 0 then (0 : Int) else 17) = r := ⟨_, rfl⟩
        have HRR := Lib.hid hr
        have HI2 := Lib.hid hi2
        clear hr hi2 F
        clear p1
        have p30 := xa.c0
        have p31 := xa.c1
        have p70 := x7.c0
        have p71 := x7.c1
        have P := Lib.hid (add_k HX.now HY.now I3 I7)
        go_wp2_with fail
        clear p30 p31 p70 p71
        with_reducible refine P.out.mono ?_
        rintro e W12 ⟨v, rfl, hf, H⟩
        obtain ⟨A12, n12, c12, B12, m12, k12, rfl, -⟩ := H.now
        have al := fun R => (Fr.refl R W12).alloc (.cells #[.slice A12 n12 c12, .slice B12 m12 k12] 26)
        replace xa := xa.keep hf
        replace x7 := x7.keep hf
        replace x8 := x8.keep hf
        replace HX := HX.keep hf
        replace HY := HY.keep hf
        replace HZ := HZ.keep hf
        replace F1 := fr_then F1 hf
        replace xa := xa.keep (al _)
        replace x7 := x7.keep (al _)
        replace x8 := x8.keep (al _)
        replace HX := HX.keep (al _)
        replace HY := HY.keep (al _)
        replace HZ := HZ.keep (al _)
        replace F1 := fr_then F1 (al _)
        have z12 := Box2.new W12 26 (.slice A12 n12 c12) (.slice B12 m12 k12)
        have H12 : Hold (fun u => TV sha ((List.zipWith (fun p q => p + q) qx qy).map canR) u (.slice A12 n12 c12) (.slice B12 m12 k12)) (W12.alloc (.cells #[.slice A12 n12 c12, .slice B12 m12 k12] 26)) := (H.mono fun _ h => h.out.tv).keep (al _)
        clear P hf H al
        have p120 := z12.c0
        have p121 := z12.c1
        have p80 := x8.c0
        have p81 := x8.c1
        have P := Lib.hid (mul_k H12.now HZ.now I12 I8)
        go_wp2_with fail
        clear p120 p121 p80 p81
        generalize W12.alloc (.cells #[.slice A12 n12 c12, .slice B12 m12 k12] 26) = U12 at *
        generalize W12.heap.size = b12 at *
        with_reducible refine P.out.mono ?_
        rintro e W14 ⟨v, rfl, hf, H⟩
        obtain ⟨A14, n14, c14, B14, m14, k14, rfl, -⟩ := H.now
        have al := fun R => (Fr.refl R W14).alloc (.cells #[.slice A14 n14 c14, .slice B14 m14 k14] 26)
        replace xa := xa.keep hf
        replace x7 := x7.keep hf
        replace x8 := x8.keep hf
        replace z12 := z12.keep hf
        replace HX := HX.keep hf
        replace HY := HY.keep hf
        replace HZ := HZ.keep hf
        replace H12 := H12.keep hf
        replace F1 := fr_then F1 hf
        replace xa := xa.keep (al _)
        replace x7 := x7.keep (al _)
        replace x8 := x8.keep (al _)
        replace z12 := z12.keep (al _)
        replace HX := HX.keep (al _)
        replace HY := HY.keep (al _)
        replace HZ := HZ.keep (al _)
        replace H12 := H12.keep (al _)
        replace F1 := fr_then F1 (al _)
        have z14 := Box2.new W14 26 (.slice A14 n14 c14) (.slice B14 m14 k14)
        have H14 : Hold (fun u => TV sha ((List.zipWith (fun p q => p * q) (List.zipWith (fun p q => p + q) qx qy) qz).map canR) u (.slice A14 n14 c14) (.slice B14 m14 k14)) (W14.alloc (.cells #[.slice A14 n14 c14, .slice B14 m14 k14] 26)) := (H.mono fun _ h => h.out.tv).keep (al _)
        clear P hf H al
        have p30 := xa.c0
        have p31 := xa.c1
        have p80 := x8.c0
        have p81 := x8.c1
        have P := Lib.hid (mul_k HX.now HZ.now I3 I8)
        go_wp2_with fail
        clear p30 p31 p80 p81
        generalize W14.alloc (.cells #[.slice A14 n14 c14, .slice B14 m14 k14] 26) = U14 at *
        generalize W14.heap.size = b14 at *
        with_reducible refine P.out.mono ?_
        rintro e W16 ⟨v, rfl, hf, H⟩
        obtain ⟨A16, n16, c16, B16, m16, k16, rfl, -⟩ := H.now
        have al := fun R => (Fr.refl R W16).alloc (.cells #[.slice A16 n16 c16, .slice B16 m16 k16] 26)
        replace xa := xa.keep hf
        replace x7 := x7.keep hf
        replace x8 := x8.keep hf
        replace z12 := z12.keep hf
        replace z14 := z14.keep hf
        replace HX := HX.keep hf
        replace HY := HY.keep hf
        replace HZ := HZ.keep hf
        replace H12 := H12.keep hf
        replace H14 := H14.keep hf
        replace F1 := fr_then F1 hf
        replace xa := xa.keep (al _)
        replace x7 := x7.keep (al _)
        replace x8 := x8.keep (al _)
        replace z12 := z12.keep (al _)
        replace z14 := z14.keep (al _)
        replace HX := HX.keep (al _)
        replace HY := HY.keep (al _)
        replace HZ := HZ.keep (al _)
        replace H12 := H12.keep (al _)
        replace H14 := H14.keep (al _)
        replace F1 := fr_then F1 (al _)
        have z16 := Box2.new W16 26 (.slice A16 n16 c16) (.slice B16 m16 k16)
        have H16 : Hold (fun u => TV sha ((List.zipWith (fun p q => p * q) qx qz).map canR) u (.slice A16 n16 c16) (.slice B16 m16 k16)) (W16.alloc (.cells #[.slice A16 n16 c16, .slice B16 m16 k16] 26)) := (H.mono fun _ h => h.out.tv).keep (al _)
        clear P hf H al
        have p70 := x7.c0
        have p71 := x7.c1
        have p80 := x8.c0
        have p81 := x8.c1
        have P := Lib.hid (mul_k HY.now HZ.now I7 I8)
        go_wp2_with fail
        clear p70 p71 p80 p81
        generalize W16.alloc (.cells #[.slice A16 n16 c16, .slice B16 m16 k16] 26) = U16 at *
        generalize W16.heap.size = b16 at *
        with_reducible refine P.out.mono ?_
        rintro e W18 ⟨v, rfl, hf, H⟩
        obtain ⟨A18, n18, c18, B18, m18, k18, rfl, -⟩ := H.now
        have al := fun R => (Fr.refl R W18).alloc (.cells #[.slice A18 n18 c18, .slice B18 m18 k18] 26)
        replace xa := xa.keep hf
        replace x7 := x7.keep hf
        replace x8 := x8.keep hf
        replace z12 := z12.keep hf
        replace z14 := z14.keep hf
        replace z16 := z16.keep hf
        replace HX := HX.keep hf
        replace HY := HY.keep hf
        replace HZ := HZ.keep hf
        replace H12 := H12.keep hf
        replace H14 := H14.keep hf
        replace H16 := H16.keep hf
        replace F1 := fr_then F1 hf
        replace xa := xa.keep (al _)
        replace x7 := x7.keep (al _)
        replace x8 := x8.keep (al _)
        replace z12 := z12.keep (al _)
        replace z14 := z14.keep (al _)
        replace z16 := z16.keep (al _)
        replace HX := HX.keep (al _)
        replace HY := HY.keep (al _)
        replace HZ := HZ.keep (al _)
        replace H12 := H12.keep (al _)
        replace H14 := H14.keep (al _)
        replace H16 := H16.keep (al _)
        replace F1 := fr_then F1 (al _)
        have z18 := Box2.new W18 26 (.slice A18 n18 c18) (.slice B18 m18 k18)
        have H18 : Hold (fun u => TV sha ((List.zipWith (fun p q => p * q) qy qz).map canR) u (.slice A18 n18 c18) (.slice B18 m18 k18)) (W18.alloc (.cells #[.slice A18 n18 c18, .slice B18 m18 k18] 26)) := (H.mono fun _ h => h.out.tv).keep (al _)
        clear P hf H al
        have p160 := z16.c0
        have p161 := z16.c1
        have p180 := z18.c0
        have p181 := z18.c1
        have P := Lib.hid (add_k H16.now H18.now I16 I18)
        go_wp2_with fail
        clear p160 p161 p180 p181
        generalize W18.alloc (.cells #[.slice A18 n18 c18, .slice B18 m18 k18] 26) = U18 at *
        generalize W18.heap.size = b18 at *
        with_reducible refine P.out.mono ?_
        rintro e W20 ⟨v, rfl, hf, H⟩
        obtain ⟨A20, n20, c20, B20, m20, k20, rfl, -⟩ := H.now
        have al := fun R => (Fr.refl R W20).alloc (.cells #[.slice A20 n20 c20, .slice B20 m20 k20] 26)
        replace xa := xa.keep hf
        replace x7 := x7.keep hf
        replace x8 := x8.keep hf
        replace z12 := z12.keep hf
        replace z14 := z14.keep hf
        replace z16 := z16.keep hf
        replace z18 := z18.keep hf
        replace HX := HX.keep hf
        replace HY := HY.keep hf
        replace HZ := HZ.keep hf
        replace H12 := H12.keep hf
        replace H14 := H14.keep hf
        replace H16 := H16.keep hf
        replace H18 := H18.keep hf
        replace F1 := fr_then F1 hf
        replace xa := xa.keep (al _)
        replace x7 := x7.keep (al _)
        replace x8 := x8.keep (al _)
        replace z12 := z12.keep (al _)
        replace z14 := z14.keep (al _)
        replace z16 := z16.keep (al _)
        replace z18 := z18.keep (al _)
        replace HX := HX.keep (al _)
        replace HY := HY.keep (al _)
        replace HZ := HZ.keep (al _)
        replace H12 := H12.keep (al _)
        replace H14 := H14.keep (al _)
        replace H16 := H16.keep (al _)
        replace H18 := H18.keep (al _)
        replace F1 := fr_then F1 (al _)
        have z20 := Box2.new W20 26 (.slice A20 n20 c20) (.slice B20 m20 k20)
        have H20 : Hold (fun u => TV sha ((List.zipWith (fun p q => p + q) (List.zipWith (fun p q => p * q) qx qz) (List.zipWith (fun p q => p * q) qy qz)).map canR) u (.slice A20 n20 c20) (.slice B20 m20 k20)) (W20.alloc (.cells #[.slice A20 n20 c20, .slice B20 m20 k20] 26)) := (H.mono fun _ h => h.out.tv).keep (al _)
        clear P hf H al
        have p120 := z12.c0
        have p121 := z12.c1
        have p70 := x7.c0
        have p71 := x7.c1
        have P := Lib.hid (sub_k H12.now HY.now I12 I7)
        go_wp2_with fail
        clear p120 p121 p70 p71
        generalize W20.alloc (.cells #[.slice A20 n20 c20, .slice B20 m20 k20] 26) = U20 at *
        generalize W20.heap.size = b20 at *
        with_reducible refine P.out.mono ?_
        rintro e W22 ⟨v, rfl, hf, H⟩
        obtain ⟨A22, n22, c22, B22, m22, k22, rfl, -⟩ := H.now
        have al := fun R => (Fr.refl R W22).alloc (.cells #[.slice A22 n22 c22, .slice B22 m22 k22] 26)
        replace xa := xa.keep hf
        replace x7 := x7.keep hf
        replace x8 := x8.keep hf
        replace z12 := z12.keep hf
        replace z14 := z14.keep hf
        replace z16 := z16.keep hf
        replace z18 := z18.keep hf
        replace z20 := z20.keep hf
        replace HX := HX.keep hf
        replace HY := HY.keep hf
        replace HZ := HZ.keep hf
        replace H12 := H12.keep hf
        replace H14 := H14.keep hf
        replace H16 := H16.keep hf
        replace H18 := H18.keep hf
        replace H20 := H20.keep hf
        replace F1 := fr_then F1 hf
        replace xa := xa.keep (al _)
        replace x7 := x7.keep (al _)
        replace x8 := x8.keep (al _)
        replace z12 := z12.keep (al _)
        replace z14 := z14.keep (al _)
        replace z16 := z16.keep (al _)
        replace z18 := z18.keep (al _)
        replace z20 := z20.keep (al _)
        replace HX := HX.keep (al _)
        replace HY := HY.keep (al _)
        replace HZ := HZ.keep (al _)
        replace H12 := H12.keep (al _)
        replace H14 := H14.keep (al _)
        replace H16 := H16.keep (al _)
        replace H18 := H18.keep (al _)
        replace H20 := H20.keep (al _)
        replace F1 := fr_then F1 (al _)
        have z22 := Box2.new W22 26 (.slice A22 n22 c22) (.slice B22 m22 k22)
        have H22 : Hold (fun u => TV sha ((List.zipWith (fun p q => p - q) (List.zipWith (fun p q => p + q) qx qy) qy).map canR) u (.slice A22 n22 c22) (.slice B22 m22 k22)) (W22.alloc (.cells #[.slice A22 n22 c22, .slice B22 m22 k22] 26)) := (H.mono fun _ h => h.out.tv).keep (al _)
        clear P hf H al
        have p140 := z14.c0
        have p141 := z14.c1
        have p200 := z20.c0
        have p201 := z20.c1
        have P := Lib.hid (same_k H14.now H20.now I14 I20 E1)
        go_wp2_with fail
        clear p140 p141 p200 p201
        generalize W22.alloc (.cells #[.slice A22 n22 c22, .slice B22 m22 k22] 26) = U22 at *
        generalize W22.heap.size = b22 at *
        with_reducible refine P.out.mono ?_
        rintro e V1 ⟨_, rfl, hf, h⟩
        obtain rfl := h.now
        replace xa := xa.keep hf
        replace x7 := x7.keep hf
        replace x8 := x8.keep hf
        replace z12 := z12.keep hf
        replace z14 := z14.keep hf
        replace z16 := z16.keep hf
        replace z18 := z18.keep hf
        replace z20 := z20.keep hf
        replace z22 := z22.keep hf
        replace HX := HX.keep hf
        replace HY := HY.keep hf
        replace HZ := HZ.keep hf
        replace H12 := H12.keep hf
        replace H14 := H14.keep hf
        replace H16 := H16.keep hf
        replace H18 := H18.keep hf
        replace H20 := H20.keep hf
        replace H22 := H22.keep hf
        replace F1 := fr_then F1 hf
        clear P hf h
        have p220 := z22.c0
        have p221 := z22.c1
        have p30 := xa.c0
        have p31 := xa.c1
        have P := Lib.hid (same_k H22.now HX.now I22 I3 E2)
        go_wp2_with fail
        clear p220 p221 p30 p31
        with_reducible refine P.out.mono ?_
        rintro e V2 ⟨_, rfl, hf, h⟩
        obtain rfl := h.now
        replace xa := xa.keep hf
        replace x7 := x7.keep hf
        replace x8 := x8.keep hf
        replace z12 := z12.keep hf
        replace z14 := z14.keep hf
        replace z16 := z16.keep hf
        replace z18 := z18.keep hf
        replace z20 := z20.keep hf
        replace z22 := z22.keep hf
        replace HX := HX.keep hf
        replace HY := HY.keep hf
        replace HZ := HZ.keep hf
        replace H12 := H12.keep hf
        replace H14 := H14.keep hf
        replace H16 := H16.keep hf
        replace H18 := H18.keep hf
        replace H20 := H20.keep hf
        replace H22 := H22.keep hf
        replace F1 := fr_then F1 hf
        clear P hf h
        have p140 := z14.c0
        have p141 := z14.c1
        have P := Lib.hid (may_k H14.now I14)
        go_wp2_with fail
        clear p140 p141
        with_reducible refine P.out.mono ?_
        rintro e V3 ⟨_, rfl, hf, h⟩
        obtain rfl := h.now
        replace xa := xa.keep hf
        replace x7 := x7.keep hf
        replace x8 := x8.keep hf
        replace z12 := z12.keep hf
        replace z14 := z14.keep hf
        replace z16 := z16.keep hf
        replace z18 := z18.keep hf
        replace z20 := z20.keep hf
        replace z22 := z22.keep hf
        replace HX := HX.keep hf
        replace HY := HY.keep hf
        replace HZ := HZ.keep hf
        replace H12 := H12.keep hf
        replace H14 := H14.keep hf
        replace H16 := H16.keep hf
        replace H18 := H18.keep hf
        replace H20 := H20.keep hf
        replace H22 := H22.keep hf
        replace F1 := fr_then F1 hf
        clear P hf h
        have p220 := z22.c0
        have p221 := z22.c1
        have P := Lib.hid (may_k H22.now I22)
        go_wp2_with fail
        clear p220 p221
        with_reducible refine P.out.mono ?_
        rintro e V4 ⟨_, rfl, hf, h⟩
        obtain rfl := h.now
        replace xa := xa.keep hf
        replace x7 := x7.keep hf
        replace x8 := x8.keep hf
        replace z12 := z12.keep hf
        replace z14 := z14.keep hf
        replace z16 := z16.keep hf
        replace z18 := z18.keep hf
        replace z20 := z20.keep hf
        replace z22 := z22.keep hf
        replace HX := HX.keep hf
        replace HY := HY.keep hf
        replace HZ := HZ.keep hf
        replace H12 := H12.keep hf
        replace H14 := H14.keep hf
        replace H16 := H16.keep hf
        replace H18 := H18.keep hf
        replace H20 := H20.keep hf
        replace H22 := H22.keep hf
        replace F1 := fr_then F1 hf
        clear P hf h
        have p160 := z16.c0
        have p161 := z16.c1
        have p80 := x8.c0
        have p81 := x8.c1
        have P := Lib.hid (div_k H16.now HZ.now I16 I8 HRR)
        go_wp2_with fail
        clear p160 p161 p80 p81
        with_reducible refine P.out.mono ?_
        rintro e W24 ⟨v, rfl, hf, H⟩
        obtain ⟨A24, n24, c24, B24, m24, k24, rfl, -⟩ := H.now
        have al := fun R => (Fr.refl R W24).alloc (.cells #[.slice A24 n24 c24, .slice B24 m24 k24] 26)
        replace xa := xa.keep hf
        replace x7 := x7.keep hf
        replace x8 := x8.keep hf
        replace z12 := z12.keep hf
        replace z14 := z14.keep hf
        replace z16 := z16.keep hf
        replace z18 := z18.keep hf
        replace z20 := z20.keep hf
        replace z22 := z22.keep hf
        replace HX := HX.keep hf
        replace HY := HY.keep hf
        replace HZ := HZ.keep hf
        replace H12 := H12.keep hf
        replace H14 := H14.keep hf
        replace H16 := H16.keep hf
        replace H18 := H18.keep hf
        replace H20 := H20.keep hf
        replace H22 := H22.keep hf
        replace F1 := fr_then F1 hf
        replace xa := xa.keep (al _)
        replace x7 := x7.keep (al _)
        replace x8 := x8.keep (al _)
        replace z12 := z12.keep (al _)
        replace z14 := z14.keep (al _)
        replace z16 := z16.keep (al _)
        replace z18 := z18.keep (al _)
        replace z20 := z20.keep (al _)
        replace z22 := z22.keep (al _)
        replace HX := HX.keep (al _)
        replace HY := HY.keep (al _)
        replace HZ := HZ.keep (al _)
        replace H12 := H12.keep (al _)
        replace H14 := H14.keep (al _)
        replace H16 := H16.keep (al _)
        replace H18 := H18.keep (al _)
        replace H20 := H20.keep (al _)
        replace H22 := H22.keep (al _)
        replace F1 := fr_then F1 (al _)
        have z24 := Box2.new W24 26 (.slice A24 n24 c24) (.slice B24 m24 k24)
        have H24 : Hold (fun u => TC r sha ((List.zipWith (fun p q => p / q) (List.zipWith (fun p q => p * q) qx qz) qz).map canR) u (.slice A24 n24 c24) (.slice B24 m24 k24)) (W24.alloc (.cells #[.slice A24 n24 c24, .slice B24 m24 k24] 26)) := (H.mono fun _ h => h.out).keep (al _)
        clear P hf H al
        by_cases hz : r = 17
        · subst hz
          have hnot : ¬ ∀ p ∈ qz, p ≠ 0 := fun h => by have h9 := HRR.out; rw [if_pos h] at h9; exact absurd h9 (by decide)
          have p81 := x8.c1
          go_wp2_with fail
          clear p81
          generalize W24.alloc (.cells #[.slice A24 n24 c24, .slice B24 m24 k24] 26) = U24 at *
          generalize W24.heap.size = b24 at *
          have LZ := Lib.hid (HZ.now.2.low Rm_pos)
          have GU := Fr.refl (fun k => k < U24.heap.size) U24
          have hb2 : i2 ≤ 1099511627000 := by rw [HI2.out]; exact I8.out.na
          go_loopw [26, 27] (fun zv k W => ∃ (j : Nat) (b : Bool), k = .int .i64 j ∧ j ≤ i2 ∧ zv = .bool b ∧ Hid (b = anyZ (qz.take j)) ∧ Box2 W b8 26 (.slice A sha.length c) (.slice A2 i2 q2) ∧ Fr (fun k => k < U24.heap.size) U24 W) (fun _ k _ => i2 - (intOf k).toNat)
          case atStart => exact ⟨0, false, rfl, by omega, rfl, Lib.hid rfl, x8, GU⟩
          case round =>
            clear x8 GU
            obtain ⟨j, b, rfl, hj, rfl, HB, x8, GU⟩ := hrel
            have p81 := x8.c1
            by_cases hlt : j < i2
            · have hjl : j < qz.length := by rw [← HI2.out]; exact hlt
              obtain ⟨ad, P, n, d1, Q, m, o, e9, hS, g0, g1, g2, r1, r2⟩ := Rm_get (show Sl Rm (fun k => k < U24.heap.size) wr (.slice A2 (qz.map canR).length q2) (qz.map canR) by rw [List.length_map, ← HI2.out]; exact LZ.out.fr GU) (i := j) (by rw [List.length_map]; exact hjl)
              rw [List.getElem_map] at g0 r1 r2
              have hst := Lib.hid (anyz_step hjl)
              have lq := Lib.hid (I8.out.lens _ (List.getElem_mem hjl))
              generalize qz[j] = q at g0 r1 r2 hst lq
              subst e9
              cases b
              · have P := Lib.hid (rof_u (x := canR q) (L := 64) (w := wr) (a := .slice P n d1) (b := .slice Q m o) ⟨r1.any, r2.any⟩ lq (by omega) (by omega))
                rw [show (canR q).1 = sg q from rfl] at g0
                rw [show (canR q).1 = sg q from rfl, qOf_can] at P
                go_wp2_with fail
                with_reducible refine P.out.mono ?_
                rintro e W7 ⟨v, rfl, hf, H⟩
                obtain ⟨A7, n7, c7, B7, m7, k7, rfl, -⟩ := H.now
                have P2 := Lib.hid (rzero_r W7 (sg q) (.slice A7 n7 c7) (.slice B7 m7 k7) q _ H.now.out)
                replace x8 := x8.keep hf
                replace GU := fr_then GU hf
                clear P g0 g1 g2 p81 r1 r2
                go_wp2_with fail
                with_reducible refine P2.out.mono ?_
                rintro e W8 ⟨rfl, hf2⟩
                replace x8 := x8.keep hf2
                replace GU := fr_then GU hf2
                clear P2 hf2 hf H
                go_wp2_with fail
                go_roundw
                case rel => exact ⟨j + 1, decide (q = 0), by go_num, by omega, rfl, Lib.hid (by rw [hst.out, ← HB.out]; rfl), x8, GU⟩
                case measure => first | (simp [intOf]; done) | (simp [intOf]; omega)
              · go_wp2_with fail
                go_roundw
                case rel => exact ⟨j + 1, true, by go_num, by omega, rfl, Lib.hid (by rw [hst.out, ← HB.out]; rfl), x8, GU⟩
                case measure => first | (simp [intOf]; done) | (simp [intOf]; omega)
            · have hb : b = true := by
                rw [HB.out, List.take_of_length_le (by rw [← HI2.out]; omega)]
                exact anyz_true hnot
              subst hb
              have F9 := fr_then F1 GU
              go_wp2_with fail
              with_reducible refine (KN _ F9).mono ?_
              rintro e V9 ⟨rfl, F9⟩
              go_wp2_with fail
              go_ret
              exact ⟨rfl, F9⟩
        · have hall : ∀ p ∈ qz, p ≠ 0 := by
            by_cases h : ∀ p ∈ qz, p ≠ 0
            · exact h
            · have h9 := HRR.out
              rw [if_neg h] at h9
              exact absurd h9.symm hz
          have hr0 : r = 0 := by rw [← HRR.out, if_pos hall]
          subst hr0
          have p240 := z24.c0
          have p241 := z24.c1
          have p30 := xa.c0
          have p31 := xa.c1
          have P := Lib.hid (same_k H24.now.tv HX.now I24 I3 (Lib.hid (E3.out hall)))
          go_wp2_with fail
          with_reducible refine P.out.mono ?_
          rintro e V9 ⟨_, rfl, hf, h⟩
          obtain rfl := h.now
          replace F1 := fr_then F1 hf
          clear P hf h p240 p241 p30 p31
          go_wp2_with fail
          with_reducible refine (KN _ F1).mono ?_
          rintro e V10 ⟨rfl, F9⟩
          go_wp2_with fail
          go_ret
          exact ⟨rfl, F9⟩
end Go.Proofs.YtlknmoegngjpcaaGreat

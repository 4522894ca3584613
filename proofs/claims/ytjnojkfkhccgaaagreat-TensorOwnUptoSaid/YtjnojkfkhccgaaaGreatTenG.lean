import Derived.Test.YtjnojkfkhccgaaaGreatTenF

/- fluxionref07.Own. -/
namespace Go.Proofs.YtjnojkfkhccgaaaGreat
open Go.RowKit

section
variable {P : Program} {α : Type} {K : Kd α} {t e : TypeId} {bytes : Nat} (E : ElemT P K t e bytes) {o : Oper} {a : Act} {Q : Exit → Act → World → Prop}
include E
/-- append, as one operation. -/
theorem oper_push {s x : Operand} (ho : o.op = .call { callee := .builtin .append, args := #[s, x], argTypes := #[t, t] }) {w : World}
    {S T : Nat → Prop} {v xv : Value} {xs ys : List α} (hs : a.eval s = v) (hx : a.eval x = xv) (h : Own K e S w v xs) (hy : Sl K T w xv ys) (hE : ∀ y cs, K.rd T w y cs → K.rd (fun k => S k ∧ some k ≠ v.ownBlock) w y cs)
    (hnew : ∀ k, w.heap.size ≤ k → S k) (hl : (xs.length + ys.length) * bytes ≤ 140737488355328) (hm : xs.length + ys.length ≤ 9223372036854775807) {K' : Act → World → Prop}
    (next : ∀ v' w', Own K e S w' v' (xs ++ ys) → Fr (fun k => some k ≠ v.ownBlock) w w' → (v'.ownBlock = v.ownBlock ∨ ∃ b, v'.ownBlock = some b ∧ w.heap.size ≤ b) → K' (a.put o.dst v') w') :
    o.wp P a w K' Q := by
  obtain ⟨i, z, hi, hz, hsize, hby, hzs⟩ := E.info
  obtain ⟨v', w', hrun, h1, h2, h3⟩ := run_push (P := P) K E.pos t o.type e i z bytes E.under hi hz hsize hby hzs h hy hE hnew hl hm
  unfold Oper.wp
  simp [execOp, ho, resolve, invoke, builtin, hs, hx, hrun, Result.andThen]
  exact next v' w' h1 (Fr.of_grown h2) h3
/-- append of one element. -/
theorem oper_push1 {s x : Operand} (ho : o.op = .call { callee := .builtin .append, args := #[s, x], argTypes := #[t, t] }) {w : World}
    {S T : Nat → Prop} {v : Value} {xs : List α} {y : α} {cs : List Value} (hs : a.eval s = v) (hx : a.eval x = .slice (some ⟨w.heap.size, 0, none⟩) 1 1) (h : Own K e S w v xs) (hy : K.rd T w y cs)
    (hT : ∀ k, T k → k < w.heap.size → S k ∧ some k ≠ v.ownBlock)
    (hnew : ∀ k, w.heap.size ≤ k → S k) (hl : (xs.length + 1) * bytes ≤ 140737488355328) (hm : xs.length + 1 ≤ 9223372036854775807) {K' : Act → World → Prop}
    (next : ∀ v' w', Own K e S w' v' (xs ++ [y]) → Fr (fun k => some k ≠ v.ownBlock) w w' → (v'.ownBlock = v.ownBlock ∨ ∃ b, v'.ownBlock = some b ∧ w.heap.size ≤ b) → K' (a.put o.dst v') w') :
    o.wp P a (w.alloc (.cells cs.toArray e)) K' Q := by
  have hlt := h.lt
  have hf : ∀ S, Fr S w (w.alloc (.cells cs.toArray e)) := fun S => (Fr.refl S w).alloc _
  have hy' : K.rd (fun k => T k ∧ k < w.heap.size) (w.alloc (.cells cs.toArray e)) y cs := K.fr (K.bd hy) (hf _)
  have hsl : Sl K (fun k => (T k ∧ k < w.heap.size) ∨ k = w.heap.size) (w.alloc (.cells cs.toArray e)) (.slice (some ⟨w.heap.size, 0, none⟩) 1 1) [y] :=
    ⟨_, 1, rfl, Nat.le_refl _, by omega, fun h => by simp at h, fun _ => ⟨_, rfl, .inr rfl, fun i x hx => by
      cases i with
      | succ i => simp at hx
      | zero =>
        simp at hx; subst hx
        refine ⟨cs, K.mono (fun k hk => .inl hk) hy', fun j u hj => ?_⟩
        rw [addr_lit, World.cell?_alloc_at _ _ _ _ rfl]
        simpa using hj⟩⟩
  refine oper_push E ho hs hx (h.fr (hf _)) hsl ?_ (fun k hk => hnew k (by simp at hk; omega)) (by simpa using hl) (by simpa using hm) ?_
  · intro y' cs' hr
    refine K.mono (fun k hk => ?_) hr
    rcases hk with hk | rfl
    · exact hT k hk.1 hk.2
    · exact ⟨hnew _ (Nat.le_refl _), fun e => by have := hlt _ e.symm; omega⟩
  · intro v' w' h1 h2 h3
    refine next v' w' h1 ((hf _).trans h2) ?_
    rcases h3 with q | ⟨b, q, hb⟩
    · exact .inl q
    · exact .inr ⟨b, q, by simp at hb; omega⟩
end

theorem Rm_get {S : Nat → Prop} {w : World} {es : List RatL} {A : Option Addr} {c : Nat} (h : Sl Rm S w (.slice A es.length c) es) {i : Nat} (hi : i < es.length) : ∃ ad P n d Q m o, A = some ad ∧ S ad.block ∧ w.cell? (ad.add (i * 3)) = some (.bool es[i].1) ∧ w.cell? ⟨(ad.add (i * 3)).block, (ad.add (i * 3)).off + 1, none⟩ = some (.slice P n d) ∧ w.cell? ⟨(ad.add (i * 3)).block, (ad.add (i * 3)).off + 2, none⟩ = some (.slice Q m o) ∧ Sl Lm S w (.slice P n d) es[i].2.1 ∧ Sl Lm S w (.slice Q m o) es[i].2.2 := by
  obtain ⟨A', c', he, h1, h2, h3, h4⟩ := h
  cases he
  obtain ⟨ad, rfl, hS, hc⟩ := h4 (by omega)
  obtain ⟨cs, ⟨vn, vd, rfl, hn, hd⟩, hu⟩ := hc i es[i] (by simp [hi])
  obtain ⟨P, n, c, rfl⟩ := hn.form
  obtain ⟨Q, m, k, rfl⟩ := hd.form
  exact ⟨ad, P, n, c, Q, m, k, rfl, hS, hu 0 _ rfl, (congrArg w.cell? (addr_next ad (i * 3) 0)).trans (hu 1 _ rfl), (congrArg w.cell? (addr_next ad (i * 3) 1)).trans (hu 2 _ rfl), hn, hd⟩
theorem Own.past {α : Type} {K : Kd α} {e : TypeId} {S R : Nat → Prop} {w w' : World} {v : Value} {xs : List α} (h : Own K e S w v xs) (hf : Fr R w w') (hs : ∀ k, S k → R k) : Own K e S w' v xs := h.fr (hf.mono fun k _ hk => hs k hk)
theorem fr_set1 (w : World) (b j : Nat) (x : Value) : Fr (fun k => k ≠ b) w (w.setCell ⟨b, j, none⟩ x) := (Fr.refl _ _).setCell (p := ⟨b, j, none⟩) (fun _ h => h rfl) _
theorem Box2.set1 {w : World} {b : Nat} {t : TypeId} {x y : Value} (h : Box2 w b t x y) (u : Value) : Box2 (w.setCell ⟨b, 1, none⟩ u) b t x u := h.set 1 u

set_option maxRecDepth 20000 in
set_option maxHeartbeats 8000000 in
theorem town_t {S T : Nat → Prop} (w : World) (vs ve : Value) (sh : List Int) (es : List RatL) (hs : Sl Im S w vs sh) (he : Sl Rm T w ve es) (hsl : sh.length ≤ 1099511627000) (hel : es.length ≤ 1099511627000) (hL : ∀ x ∈ es, x.2.1.length ≤ 1099511627000 ∧ x.2.2.length ≤ 1099511627000) :
    Calls Tryz.prog 8 #[.agg #[vs, ve]] w fun e w' => ∃ v1 v2, e = .returned (.agg #[v1, v2]) ∧ Own Im 3 (fun k => w.heap.size ≤ k) w' v1 sh ∧ Own Rm 43 (fun k => w.heap.size ≤ k) w' v2 es ∧ Fr (fun k => k < w.heap.size) w w' := by
  obtain ⟨A, c, rfl, _, _, _⟩ := hs.slice
  obtain ⟨A', c', rfl, _, _, hly⟩ := he.slice
  have F := fun R => ((Fr.refl R w).alloc (.cells #[.slice A sh.length c, .slice A' es.length c'] 26)).alloc (.cells #[.slice none 0 0, .slice none 0 0] 26)
  have HS := Lib.hid (hs.up Im_pos (Nat.le_refl _) (F _))
  have HE := Lib.hid (he.up Rm_pos (Nat.le_refl _) (F _))
  have hb1 := (Box2.new w 26 (.slice A sh.length c) (.slice A' es.length c')).alloc (.cells #[.slice none 0 0, .slice none 0 0] 26)
  have hb2 := Box2.new (w.alloc (.cells #[.slice A sh.length c, .slice A' es.length c'] 26)) 26 (.slice none 0 0) (.slice none 0 0)
  simp only [World.size_alloc] at hb2
  replace F := F (fun k => k < w.heap.size)
  have HN := Lib.hid (show (([] : List Int).length + sh.length) * 8 ≤ 140737488355328 ∧ ([] : List Int).length + sh.length ≤ 9223372036854775807 by simp; omega)
  have HL := Lib.hid hL
  clear hs he hL
  go_enter Tryz.func8, Tryz.ntmps8
  go_wp2_with (at_builtin; refine wpList_push (v := .slice none 0 0) imT rfl rfl rfl rfl (Own.nil Im 3 (fun k => w.heap.size + 2 ≤ k) _) HS.out (fun y cs h => Kd.int_any (S := fun k => k < w.heap.size) h) (fun k hk => by simp only [World.size_alloc] at hk; omega) HN.out.1 HN.out.2 ?_; intro v1 w1 ho1 hf1 hat1; obtain ⟨A1, n1, c1, rfl⟩ := ho1.form)
  simp only [List.nil_append] at ho1
  have F1 := F.comp hf1 (R := fun k => k < w.heap.size) fun k _ hk => ⟨hk, by simp [Value.ownBlock]⟩
  have s1 := hf1.size
  simp only [World.size_alloc] at s1
  have lt1 := ho1.lt
  have k1 := hb1.fr hf1 (by simp [Value.ownBlock])
  have k2 := hb2.fr hf1 (by simp [Value.ownBlock])
  have HE1 := Lib.hid (HE.out.fr (hf1.mono fun k _ hk => by simp [Value.ownBlock]))
  clear hf1 hat1 hb1 hb2 F HS HE HN
  have al := fun R => (Fr.refl R w1).alloc (.cells #[.slice A1 n1 c1, .slice none 0 0] 26)
  have b3 := Box2.new w1 26 (.slice A1 n1 c1) (.slice none 0 0)
  have o1 := (ho1.bd.fr (al _)).mono (T := fun k => w.heap.size + 2 ≤ k ∧ k < w1.heap.size) fun k hk => hk
  have k1' := k1.alloc (.cells #[.slice A1 n1 c1, .slice none 0 0] 26)
  have k2' := k2.alloc (.cells #[.slice A1 n1 c1, .slice none 0 0] 26)
  have HE2 := Lib.hid (HE1.out.fr (al _))
  have F2 := F1.alloc (.cells #[.slice A1 n1 c1, .slice none 0 0] 26)
  clear ho1 k1 k2 HE1 F1 al lt1
  go_loopw [4] (fun i wr => ∃ (j : Nat) (v2 : Value), i = .int .i64 j ∧ j ≤ es.length ∧ Box2 wr w.heap.size 26 (.slice A sh.length c) (.slice A' es.length c') ∧ Box2 wr (w.heap.size + 1) 26 (.slice none 0 0) (.slice none 0 0) ∧ Box2 wr w1.heap.size 26 (.slice A1 n1 c1) v2 ∧ Own Im 3 (fun k => w.heap.size + 2 ≤ k ∧ k < w1.heap.size) wr (.slice A1 n1 c1) sh ∧ Own Rm 43 (fun k => w1.heap.size < k) wr v2 (es.take j) ∧ Hid (Sl Rm (fun k => k < w.heap.size) wr (.slice A' es.length c') es) ∧ Fr (fun k => k < w.heap.size) w wr) (fun i _ => es.length - (intOf i).toNat)
  case atStart => exact ⟨0, _, rfl, by omega, k1', k2', b3, o1, Own.nil _ _ _ _, HE2, F2⟩
  case round =>
    clear k1' k2' b3 o1 HE2 F2
    obtain ⟨j, v2, rfl, hj, k1, k2, b3, o1, o2, HE, F⟩ := hrel
    obtain ⟨A2, n2, c2, rfl⟩ := o2.form
    have c0 := k1.c0
    have c1' := k1.c1
    by_cases hlt : j < es.length
    · have D := fun R => (Fr.refl R wr).drew
      replace k1 := k1.fr (D (fun _ => True)) trivial
      replace k2 := k2.fr (D (fun _ => True)) trivial
      replace b3 := b3.fr (D (fun _ => True)) trivial
      replace o1 := o1.fr (D _)
      replace o2 := o2.fr (D _)
      replace HE := Lib.hid (HE.out.fr (D _))
      replace F := F.drew
      clear D
      obtain ⟨ad, P, n, d, Q, m, o, rfl, hS, g0, g1, g2, r1, r2⟩ := Rm_get HE.out hlt
      have hlen := HL.out _ (List.getElem_mem hlt)
      have htk := List.take_succ_eq_append_getElem hlt
      generalize es[j] = y at g0 r1 r2 hlen htk
      have S0 : wr.drew.cell? ⟨w1.heap.size, 1, none⟩ = some (.slice A2 n2 c2) ∧ wr.drew.cell? ⟨w.heap.size, 1, none⟩ = some (.slice (some ad) es.length c') ∧ wr.drew.cell? (ad.add (j * 3)) = some (.bool y.1) ∧ wr.drew.cell? ⟨(ad.add (j * 3)).block, (ad.add (j * 3)).off + 1, none⟩ = some (.slice P n d) ∧ wr.drew.cell? ⟨(ad.add (j * 3)).block, (ad.add (j * 3)).off + 2, none⟩ = some (.slice Q m o) := ⟨b3.c1, k1.c1, g0, g1, g2⟩
      have KS : ∀ u, Fr (fun k => k ≤ w.heap.size ∨ k = w1.heap.size) wr.drew u → u.cell? ⟨w1.heap.size, 1, none⟩ = some (.slice A2 n2 c2) ∧ u.cell? ⟨w.heap.size, 1, none⟩ = some (.slice (some ad) es.length c') ∧ u.cell? (ad.add (j * 3)) = some (.bool y.1) ∧ u.cell? ⟨(ad.add (j * 3)).block, (ad.add (j * 3)).off + 1, none⟩ = some (.slice P n d) ∧ u.cell? ⟨(ad.add (j * 3)).block, (ad.add (j * 3)).off + 2, none⟩ = some (.slice Q m o) := fun u hu =>
        ⟨(b3.fr hu (.inr rfl)).c1, (k1.fr hu (.inl (Nat.le_refl _))).c1, hu.cell g0 (by rw [addr_block]; exact .inl (Nat.le_of_lt hS)), hu.cell g1 (show (ad.add (j * 3)).block ≤ w.heap.size ∨ _ by rw [addr_block]; exact .inl (Nat.le_of_lt hS)), hu.cell g2 (show (ad.add (j * 3)).block ≤ w.heap.size ∨ _ by rw [addr_block]; exact .inl (Nat.le_of_lt hS))⟩
      have HT := Lib.hid htk
      have HLn := Lib.hid (show ((es.take j).length + 1) * 56 ≤ 140737488355328 ∧ (es.take j).length + 1 ≤ 9223372036854775807 by rw [List.length_take]; omega)
      have l1 := k1.lt
      have l2 := k2.lt
      have l3 := b3.lt
      clear htk
      go_wp2_with fail
      refine wpTill.begin (fun u => u.cell? ⟨w1.heap.size, 1, none⟩ = some (.slice A2 n2 c2) ∧ u.cell? ⟨w.heap.size, 1, none⟩ = some (.slice (some ad) es.length c') ∧ u.cell? (ad.add (j * 3)) = some (.bool y.1) ∧ u.cell? ⟨(ad.add (j * 3)).block, (ad.add (j * 3)).off + 1, none⟩ = some (.slice P n d) ∧ u.cell? ⟨(ad.add (j * 3)).block, (ad.add (j * 3)).off + 2, none⟩ = some (.slice Q m o)) 10 (by kernel_rfl) ?_
      change wpTill _ _ _ _ _ _ 12 _ _ _
      refine wpTill.take 0 (.pointer (some ⟨w1.heap.size, 1, none⟩)) rfl (by kernel_rfl) (by kernel_rfl) (fun _ _ _ h => h) S0 (by rfl) (fun u hu => by go_simp) ?_
      try simp only [Act.put, List.setIfInBounds_toArray, List.set_cons_zero, List.set_cons_succ]
      refine wpTill.take 1 (.slice A2 n2 c2) rfl (by kernel_rfl) (by kernel_rfl) (fun _ _ _ h => h) S0 (by rfl) (fun u hu => by go_simp) ?_
      try simp only [Act.put, List.setIfInBounds_toArray, List.set_cons_zero, List.set_cons_succ]
      refine wpTill.take 2 (.pointer (some ⟨w.heap.size, 1, none⟩)) rfl (by kernel_rfl) (by kernel_rfl) (fun _ _ _ h => h) S0 (by rfl) (fun u hu => by go_simp) ?_
      try simp only [Act.put, List.setIfInBounds_toArray, List.set_cons_zero, List.set_cons_succ]
      refine wpTill.take 3 (.slice (some ad) es.length c') rfl (by kernel_rfl) (by kernel_rfl) (fun _ _ _ h => h) S0 (by rfl) (fun u hu => by go_simp) ?_
      try simp only [Act.put, List.setIfInBounds_toArray, List.set_cons_zero, List.set_cons_succ]
      refine wpTill.take 4 (.int .i64 j) rfl (by kernel_rfl) (by kernel_rfl) (fun _ _ _ h => h) S0 (by rfl) (fun u hu => by go_simp) ?_
      try simp only [Act.put, List.setIfInBounds_toArray, List.set_cons_zero, List.set_cons_succ]
      refine wpTill.take 5 (.pointer (some (ad.add (j * 3)))) rfl (by kernel_rfl) (by kernel_rfl) (fun _ _ _ h => h) S0 (by rfl) (fun u hu => by go_simp) ?_
      try simp only [Act.put, List.setIfInBounds_toArray, List.set_cons_zero, List.set_cons_succ]
      refine wpTill.take 6 (.agg #[.bool y.1, .slice P n d, .slice Q m o]) rfl (by kernel_rfl) (by kernel_rfl) (fun _ _ _ h => h) S0 (by rfl) (fun u hu => by go_simp) ?_
      try simp only [Act.put, List.setIfInBounds_toArray, List.set_cons_zero, List.set_cons_succ]
      refine wpTill.next 7 rfl (by kernel_rfl) (by rfl) (fun K hK => ?_)
      go_simp
      refine (rown_l _ y.1 (.slice P n d) (.slice Q m o) y.2.1 y.2.2 r1 r2 hlen.1 hlen.2).mono ?_
      rintro e u1 ⟨v3, v4, rfl, hol, hf⟩
      obtain ⟨⟨P3, i3, j3, rfl⟩, ⟨P4, i4, j4, rfl⟩⟩ := hol.form
      have G1 : Fr (fun k => k ≤ w.heap.size ∨ k = w1.heap.size) wr.drew u1 := hf.mono fun k hk _ => hk
      refine hK _ _ (fun _ => KS _ G1) ?_
      clear hK K
      try simp only [Act.put, List.setIfInBounds_toArray, List.set_cons_zero, List.set_cons_succ]
      refine wpTill.next 8 rfl (by kernel_rfl) (by rfl) (fun K hK => ?_)
      go_simp
      refine hK _ _ (fun _ => KS _ (G1.alloc _)) ?_
      clear hK K
      try simp only [Act.put, List.setIfInBounds_toArray, List.set_cons_zero, List.set_cons_succ]
      have lt2 := o2.lt
      replace k1 := k1.keep hf
      replace k2 := k2.keep hf
      replace b3 := b3.keep hf
      replace o1 := o1.keep' hf
      replace o2 := o2.keep' hf
      replace HE := Lib.hid (HE.out.keep' Rm_pos hf)
      have F' := fr_then F hf
      have sz := hf.size
      clear S0 g0 g1 g2 r1 r2
      have in2 := o2.in_
      refine wpTill.next 9 rfl (by kernel_rfl) (by rfl) (fun K hK => ?_)
      refine oper_push1 rmT (v := .slice A2 n2 c2) (y := y) (T := fun k => wr.drew.heap.size ≤ k) rfl rfl rfl o2 ⟨_, _, rfl, hol.num.sl, hol.den.sl⟩ (fun k hk _ => ⟨by omega, fun e => by have := lt2 k e.symm; omega⟩) (fun k hk => by omega) HLn.out.1 HLn.out.2 ?_
      intro v5 u2 ho hfr hat
      obtain ⟨A3, n3, c3, rfl⟩ := ho.form
      have G2 : Fr (fun k => k ≤ w.heap.size ∨ k = w1.heap.size) wr.drew u2 := G1.comp hfr fun k _ hk => ⟨hk, fun e => by have := in2 _ e.symm; omega⟩
      refine hK _ _ (fun _ => KS _ G2) ?_
      clear hK K
      try simp only [Act.put, List.setIfInBounds_toArray, List.set_cons_zero, List.set_cons_succ]
      replace k1 := k1.fr hfr (fun e => by have := in2 _ e.symm; omega)
      replace k2 := k2.fr hfr (fun e => by have := in2 _ e.symm; omega)
      replace b3 := b3.fr hfr (fun e => by have := in2 _ e.symm; omega)
      replace o1 := o1.past hfr (fun k hk e => by have := in2 _ e.symm; omega)
      replace HE := Lib.hid (HE.out.fr (hfr.mono fun k _ hk e => by have := in2 _ e.symm; omega))
      replace F := F'.comp hfr (R := fun k => k < w.heap.size) fun k _ hk => ⟨hk, fun e => by have := in2 _ e.symm; omega⟩
      replace o2 := ho
      clear ho hfr hat hf F' in2
      have e0 := b3.c1
      have e1 := b3.free 1
      refine wpTill.next 10 rfl (by kernel_rfl) (by rfl) (fun K hK => ?_)
      go_simp
      refine hK _ _ (no_wait (by kernel_rfl)) ?_
      clear hK K
      try simp only [Act.put, List.setIfInBounds_toArray, List.set_cons_zero, List.set_cons_succ]
      refine wpTill.next 11 rfl (by kernel_rfl) (by rfl) (fun K hK => ?_)
      go_simp
      refine hK _ _ (no_wait (by kernel_rfl)) ?_
      clear hK K
      try simp only [Act.put, List.setIfInBounds_toArray, List.set_cons_zero, List.set_cons_succ]
      refine wpTill.done (by kernel_rfl) ?_
      clear e0 e1
      have F9 := fr_set1 u2 w1.heap.size 1 (.slice A3 n3 c3)
      have f1 := k1.fr F9 (by omega)
      have f2 := k2.fr F9 (by omega)
      have f3 := b3.set1 (.slice A3 n3 c3)
      have f4 := o1.past F9 (fun k hk => by omega)
      have f5 := o2.past F9 (fun k hk => by omega)
      have f6 := HE.out.fr (F9.mono fun k _ hk => by omega)
      have f7 := F.comp F9 (R := fun k => k < w.heap.size) fun k _ hk => ⟨hk, by omega⟩
      go_wp2_with fail
      go_roundw
      case rel => exact ⟨j + 1, _, by go_num, by omega, f1, f2, f3, f4, by rw [HT.out]; exact f5, f6, f7⟩
      case measure => first | (simp [intOf]; done) | (simp [intOf]; omega)
    · obtain rfl : j = es.length := by omega
      rw [List.take_length] at o2
      have d0 := b3.c0
      have d1 := b3.c1
      go_wp2_with ((with_reducible apply wpList_st2); rfl; rfl; exact k2; exact ten2; rfl; rfl; intro w9 B9 F9)
      refine bodyPost_ret (results_cell2 rfl rfl B9 Tryz.underlying26 ten2) rfl ?_
      exact ⟨_, _, rfl, (o1.past F9 fun k hk => by omega).mono fun k hk => by omega, (o2.past F9 fun k hk => by omega).mono fun k hk => by omega, F.comp F9 fun k _ hk => ⟨hk, by omega⟩⟩
end Go.Proofs.YtjnojkfkhccgaaaGreat

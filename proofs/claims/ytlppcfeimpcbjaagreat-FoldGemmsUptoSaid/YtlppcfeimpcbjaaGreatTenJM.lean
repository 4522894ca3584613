/- Texts merged: TenJ, TenK, TenL, TenM. -/
import Derived.Test.YtlppcfeimpcbjaaGreatTenFI
set_option linter.unusedSimpArgs false
set_option linter.unusedVariables false

/- fluxionref07.Back: a tensor of the document's as the program has it. -/
namespace Go.Proofs.YtlppcfeimpcbjaaGreat
open Go.RowKit

theorem append_types {P : Program} {t t' ty e e' : TypeId} (ht : P.underlying t = some (.slice e)) (ht' : P.underlying t' = some (.slice e')) (v x : Value) (w : World) :
    (Builtin.append_ #[t, t'] ty #[v, x]).run P w = (Builtin.append_ #[t, t] ty #[v, x]).run P w := by
  unfold Builtin.append_
  cases v with
  | slice A n c =>
    simp only [List.getElem?_toArray, List.getElem?_cons_zero, List.getElem?_cons_succ, Sem.run_bind, run_underlying ht, run_underlying ht', Result.andThen, Sem.run_pure]
  | _ =>
    simp only [List.getElem?_toArray, List.getElem?_cons_zero, List.getElem?_cons_succ, Sem.run_bind, run_underlying ht, run_underlying ht', Result.andThen, Sem.run_pure]
/-- append of a slice of another type of one kind. -/
theorem wpList_push2 {P : Program} {α : Type} {K : Kd α} {t t' e e' : TypeId} {bytes : Nat} (E : ElemT P K t e bytes) (ht' : P.underlying t' = some (.slice e')) {ops : Array Oper} {rest : List Oper} {o : Oper} {a : Act} {Q : Exit → Act → World → Prop}
    (hgd : o.guard = none) {s x : Operand} (ho : o.op = .call { callee := .builtin .append, args := #[s, x], argTypes := #[t, t'] }) {w : World}
    {S T : Nat → Prop} {v xv : Value} {xs ys : List α} (hs : a.eval s = v) (hx : a.eval x = xv) (h : Own K e S w v xs) (hy : Sl K T w xv ys) (hE : ∀ y cs, K.rd T w y cs → K.rd (fun k => S k ∧ some k ≠ v.ownBlock) w y cs)
    (hnew : ∀ k, w.heap.size ≤ k → S k) (hl : (xs.length + ys.length) * bytes ≤ 140737488355328) (hm : xs.length + ys.length ≤ 9223372036854775807)
    (next : ∀ v' w', Own K e S w' v' (xs ++ ys) → Fr (fun k => some k ≠ v.ownBlock) w w' → (v'.ownBlock = v.ownBlock ∨ ∃ b, v'.ownBlock = some b ∧ w.heap.size ≤ b) → wpList P ops Q rest (a.put o.dst v') w') :
    wpList P ops Q (o :: rest) a w := by
  obtain ⟨i, z, hi, hz, hsize, hby, hzs⟩ := E.info
  refine wpList_plain hgd fun K' hK => ?_
  obtain ⟨v', w', hrun, h1, h2, h3⟩ := run_push (P := P) K E.pos t o.type e i z bytes E.under hi hz hsize hby hzs h hy hE hnew hl hm
  have hrun' := (append_types (ty := o.type) E.under ht' v xv w).trans hrun
  unfold Oper.wp
  simp [execOp, ho, resolve, invoke, builtin, hs, hx, hrun', Result.andThen]
  exact hK _ _ (next v' w' h1 (Fr.of_grown h2) h3)

/-- A rational of the document's in memory. -/
def Rk (L : Nat) : Kd Rat where
  size := 3
  rd S w q cs := ∃ vn vd, cs = [.bool (sg q), vn, vd] ∧ RR S w vn vd q L
  len h := by obtain ⟨_, _, rfl, _⟩ := h; rfl
  one h u hu := by
    obtain ⟨vn, vd, rfl, hr⟩ := h
    obtain ⟨⟨A, n, c, rfl⟩, ⟨B, m, k, rfl⟩⟩ := hr.form
    simp only [List.mem_cons, List.not_mem_nil, or_false] at hu
    rcases hu with rfl | rfl | rfl <;> rfl
  mono hs h := by obtain ⟨vn, vd, e, hr⟩ := h; exact ⟨vn, vd, e, hr.mono hs⟩
  bd h := by obtain ⟨vn, vd, e, hr⟩ := h; exact ⟨vn, vd, e, ⟨⟨hr.num.sl.bd Dg_pos, hr.num.len⟩, ⟨hr.den.sl.bd Dg_pos, hr.den.len⟩⟩⟩
  fr h hf := by obtain ⟨vn, vd, e, hr⟩ := h; exact ⟨vn, vd, e, hr.fr hf⟩
theorem Rk_pos (L : Nat) : 0 < (Rk L).size := Nat.succ_pos 2
theorem rkT (L : Nat) : ElemT Tryz.prog (Rk L) 34 58 56 := ElemT.mk' (.agg #[.bool false, .slice none 0 0, .slice none 0 0]) Tryz.underlying34 (Rk_pos L) (by kernel_rfl) rfl
theorem Rk_get {L : Nat} {S : Nat → Prop} {w : World} {qs : List Rat} {A : Option Addr} {c : Nat} (h : Sl (Rk L) S w (.slice A qs.length c) qs) {i : Nat} (hi : i < qs.length) : ∃ ad P n d Q m o, A = some ad ∧ S ad.block ∧ w.cell? (ad.add (i * 3)) = some (.bool (sg qs[i])) ∧ w.cell? ⟨(ad.add (i * 3)).block, (ad.add (i * 3)).off + 1, none⟩ = some (.slice P n d) ∧ w.cell? ⟨(ad.add (i * 3)).block, (ad.add (i * 3)).off + 2, none⟩ = some (.slice Q m o) ∧ RR S w (.slice P n d) (.slice Q m o) qs[i] L := by
  obtain ⟨A', c', he, h1, h2, h3, h4⟩ := h
  cases he
  obtain ⟨ad, rfl, hS, hc⟩ := h4 (by omega)
  obtain ⟨cs, ⟨vn, vd, rfl, hr⟩, hu⟩ := hc i qs[i] (by simp [hi])
  obtain ⟨⟨P, n, c, rfl⟩, ⟨Q, m, k, rfl⟩⟩ := hr.form
  exact ⟨ad, P, n, c, Q, m, k, rfl, hS, hu 0 _ rfl, (congrArg w.cell? (addr_next ad (i * 3) 0)).trans (hu 1 _ rfl), (congrArg w.cell? (addr_next ad (i * 3) 1)).trans (hu 2 _ rfl), hr⟩
/-- A rational in its one form. -/
def canR (q : Rat) : RatL := (sg q, dg LB q.num.natAbs, dg LB q.den)
theorem map_take_step {α β : Type} (f : α → β) {l : List α} {j : Nat} {y : α} (h : l.take (j + 1) = l.take j ++ [y]) : (l.take (j + 1)).map f = (l.take j).map f ++ [f y] := by rw [h, List.map_append]; rfl

set_option maxRecDepth 20000 in
set_option maxHeartbeats 8000000 in
theorem tback_t {S T : Nat → Prop} (w : World) (vs ve : Value) (sh : List Int) (es : List Rat) (L : Nat) (hs : Sl Im S w vs sh) (he : Sl (Rk L) T w ve es) (hsl : sh.length ≤ 1099511627000) (hel : es.length ≤ 1099511627000) (hl : L ≤ 1099511627000) (hL : ∀ q ∈ es, (dg LB q.num.natAbs).length ≤ 1099511627000 ∧ (dg LB q.den).length ≤ 1099511627000) :
    Calls Tryz.prog 38 #[.agg #[vs, ve]] w fun e w' => ∃ v1 v2, e = .returned (.agg #[v1, v2]) ∧ Own Im 3 (fun k => w.heap.size ≤ k) w' v1 sh ∧ Own Rm 54 (fun k => w.heap.size ≤ k) w' v2 (es.map canR) ∧ Fr (fun k => k < w.heap.size) w w' := by
  obtain ⟨A, c, rfl, _, _, _⟩ := hs.slice
  obtain ⟨A', c', rfl, _, _, hly⟩ := he.slice
  have F := fun R => ((Fr.refl R w).alloc (.cells #[.slice A sh.length c, .slice A' es.length c'] 36)).alloc (.cells #[.slice none 0 0, .slice none 0 0] 26)
  have HS := Lib.hid (hs.up Im_pos (Nat.le_refl _) (F _))
  have HE := Lib.hid (he.up (Rk_pos L) (Nat.le_refl _) (F _))
  have hb1 := (Box2.new w 36 (.slice A sh.length c) (.slice A' es.length c')).alloc (.cells #[.slice none 0 0, .slice none 0 0] 26)
  have hb2 := Box2.new (w.alloc (.cells #[.slice A sh.length c, .slice A' es.length c'] 36)) 26 (.slice none 0 0) (.slice none 0 0)
  simp only [World.size_alloc] at hb2
  replace F := F (fun k => k < w.heap.size)
  have HN := Lib.hid (show (([] : List Int).length + sh.length) * 8 ≤ 140737488355328 ∧ ([] : List Int).length + sh.length ≤ 9223372036854775807 by simp; omega)
  have HL := Lib.hid hL
  clear hs he hL
  go_enter Tryz.func38, Tryz.ntmps38
  go_wp2_with (at_builtin; refine wpList_push2 (v := .slice none 0 0) imT Tryz.underlying22 rfl rfl rfl rfl (Own.nil Im 3 (fun k => w.heap.size + 2 ≤ k) _) HS.out (fun y cs h => Kd.int_any (S := fun k => k < w.heap.size) h) (fun k hk => by simp only [World.size_alloc] at hk; omega) HN.out.1 HN.out.2 ?_; intro v1 w1 ho1 hf1 hat1; obtain ⟨A1, n1, c1, rfl⟩ := ho1.form)
  simp only [List.nil_append] at ho1
  have F1 := F.comp hf1 (R := fun k => k < w.heap.size) fun k _ hk => ⟨hk, by simp [Value.ownBlock]⟩
  have s1 := hf1.size
  simp only [World.size_alloc] at s1
  have lt1 := ho1.lt
  have k1 := hb1.fr hf1 (by simp [Value.ownBlock])
  have k2 := hb2.fr hf1 (by simp [Value.ownBlock])
  have HE1 := Lib.hid (HE.out.fr (hf1.mono fun k _ hk => by simp [Value.ownBlock]))
  clear hf1 hat1 hb1 hb2 F HS HE HN
  have al := fun R => (Fr.refl R w1).alloc (.cells #[.slice A1 n1 c1, .slice none 0 0] 26)
  have b3 := Box2.new w1 26 (.slice A1 n1 c1) (.slice none 0 0)
  have o1 := (ho1.bd.fr (al _)).mono (T := fun k => w.heap.size + 2 ≤ k ∧ k < w1.heap.size) fun k hk => hk
  have k1' := k1.alloc (.cells #[.slice A1 n1 c1, .slice none 0 0] 26)
  have k2' := k2.alloc (.cells #[.slice A1 n1 c1, .slice none 0 0] 26)
  have HE2 := Lib.hid (HE1.out.fr (al _))
  have F2 := F1.alloc (.cells #[.slice A1 n1 c1, .slice none 0 0] 26)
  clear ho1 k1 k2 HE1 F1 al lt1
  go_loopw [4] (fun i wr => ∃ (j : Nat) (v2 : Value), i = .int .i64 j ∧ j ≤ es.length ∧ Box2 wr w.heap.size 36 (.slice A sh.length c) (.slice A' es.length c') ∧ Box2 wr (w.heap.size + 1) 26 (.slice none 0 0) (.slice none 0 0) ∧ Box2 wr w1.heap.size 26 (.slice A1 n1 c1) v2 ∧ Own Im 3 (fun k => w.heap.size + 2 ≤ k ∧ k < w1.heap.size) wr (.slice A1 n1 c1) sh ∧ Own Rm 54 (fun k => w1.heap.size < k) wr v2 ((es.take j).map canR) ∧ Hid (Sl (Rk L) (fun k => k < w.heap.size) wr (.slice A' es.length c') es) ∧ Fr (fun k => k < w.heap.size) w wr) (fun i _ => es.length - (intOf i).toNat)
  case atStart => exact ⟨0, _, rfl, by omega, k1', k2', b3, o1, Own.nil _ _ _ _, HE2, F2⟩
  case round =>
    clear k1' k2' b3 o1 HE2 F2
    obtain ⟨j, v2, rfl, hj, k1, k2, b3, o1, o2, HE, F⟩ := hrel
    obtain ⟨A2, n2, c2, rfl⟩ := o2.form
    have c0 := k1.c0
    have c1' := k1.c1
    by_cases hlt : j < es.length
    · have D := fun R => (Fr.refl R wr).drew
      replace k1 := k1.fr (D (fun _ => True)) trivial
      replace k2 := k2.fr (D (fun _ => True)) trivial
      replace b3 := b3.fr (D (fun _ => True)) trivial
      replace o1 := o1.fr (D _)
      replace o2 := o2.fr (D _)
      replace HE := Lib.hid (HE.out.fr (D _))
      replace F := F.drew
      clear D
      obtain ⟨ad, P, n, d, Q, m, o, rfl, hS, g0, g1, g2, r1⟩ := Rk_get HE.out hlt
      have hlen := HL.out _ (List.getElem_mem hlt)
      have htk := List.take_succ_eq_append_getElem hlt
      generalize es[j] = y at g0 r1 hlen htk
      obtain ⟨sy, hsy⟩ : ∃ s, s = sg y := ⟨_, rfl⟩
      rw [← hsy] at g0
      have HSY := Lib.hid hsy
      have HLE := Lib.hid hlen
      clear hsy hlen
      have S0 : wr.drew.cell? ⟨w1.heap.size, 1, none⟩ = some (.slice A2 n2 c2) ∧ wr.drew.cell? ⟨w.heap.size, 1, none⟩ = some (.slice (some ad) es.length c') ∧ wr.drew.cell? (ad.add (j * 3)) = some (.bool sy) ∧ wr.drew.cell? ⟨(ad.add (j * 3)).block, (ad.add (j * 3)).off + 1, none⟩ = some (.slice P n d) ∧ wr.drew.cell? ⟨(ad.add (j * 3)).block, (ad.add (j * 3)).off + 2, none⟩ = some (.slice Q m o) := ⟨b3.c1, k1.c1, g0, g1, g2⟩
      have KS : ∀ u, Fr (fun k => k ≤ w.heap.size ∨ k = w1.heap.size) wr.drew u → u.cell? ⟨w1.heap.size, 1, none⟩ = some (.slice A2 n2 c2) ∧ u.cell? ⟨w.heap.size, 1, none⟩ = some (.slice (some ad) es.length c') ∧ u.cell? (ad.add (j * 3)) = some (.bool sy) ∧ u.cell? ⟨(ad.add (j * 3)).block, (ad.add (j * 3)).off + 1, none⟩ = some (.slice P n d) ∧ u.cell? ⟨(ad.add (j * 3)).block, (ad.add (j * 3)).off + 2, none⟩ = some (.slice Q m o) := fun u hu =>
        ⟨(b3.fr hu (.inr rfl)).c1, (k1.fr hu (.inl (Nat.le_refl _))).c1, hu.cell g0 (by rw [addr_block]; exact .inl (Nat.le_of_lt hS)), hu.cell g1 (show (ad.add (j * 3)).block ≤ w.heap.size ∨ _ by rw [addr_block]; exact .inl (Nat.le_of_lt hS)), hu.cell g2 (show (ad.add (j * 3)).block ≤ w.heap.size ∨ _ by rw [addr_block]; exact .inl (Nat.le_of_lt hS))⟩
      have HT := Lib.hid (map_take_step canR htk)
      have HLn := Lib.hid (show (((es.take j).map canR).length + 1) * 56 ≤ 140737488355328 ∧ ((es.take j).map canR).length + 1 ≤ 9223372036854775807 by rw [List.length_map, List.length_take]; omega)
      have l1 := k1.lt
      have l2 := k2.lt
      have l3 := b3.lt
      clear htk
      go_wp2_with fail
      refine wpTill.begin (fun u => u.cell? ⟨w1.heap.size, 1, none⟩ = some (.slice A2 n2 c2) ∧ u.cell? ⟨w.heap.size, 1, none⟩ = some (.slice (some ad) es.length c') ∧ u.cell? (ad.add (j * 3)) = some (.bool sy) ∧ u.cell? ⟨(ad.add (j * 3)).block, (ad.add (j * 3)).off + 1, none⟩ = some (.slice P n d) ∧ u.cell? ⟨(ad.add (j * 3)).block, (ad.add (j * 3)).off + 2, none⟩ = some (.slice Q m o)) 10 (by kernel_rfl) ?_
      change wpTill _ _ _ _ _ _ 12 _ _ _
      refine wpTill.take 0 (.pointer (some ⟨w1.heap.size, 1, none⟩)) rfl (by kernel_rfl) (by kernel_rfl) (fun _ _ _ h => h) S0 (by rfl) (fun u hu => by go_simp) ?_
      try simp only [Act.put, List.setIfInBounds_toArray, List.set_cons_zero, List.set_cons_succ]
      refine wpTill.take 1 (.slice A2 n2 c2) rfl (by kernel_rfl) (by kernel_rfl) (fun _ _ _ h => h) S0 (by rfl) (fun u hu => by go_simp) ?_
      try simp only [Act.put, List.setIfInBounds_toArray, List.set_cons_zero, List.set_cons_succ]
      refine wpTill.take 2 (.pointer (some ⟨w.heap.size, 1, none⟩)) rfl (by kernel_rfl) (by kernel_rfl) (fun _ _ _ h => h) S0 (by rfl) (fun u hu => by go_simp) ?_
      try simp only [Act.put, List.setIfInBounds_toArray, List.set_cons_zero, List.set_cons_succ]
      refine wpTill.take 3 (.slice (some ad) es.length c') rfl (by kernel_rfl) (by kernel_rfl) (fun _ _ _ h => h) S0 (by rfl) (fun u hu => by go_simp) ?_
      try simp only [Act.put, List.setIfInBounds_toArray, List.set_cons_zero, List.set_cons_succ]
      refine wpTill.take 4 (.int .i64 j) rfl (by kernel_rfl) (by kernel_rfl) (fun _ _ _ h => h) S0 (by rfl) (fun u hu => by go_simp) ?_
      try simp only [Act.put, List.setIfInBounds_toArray, List.set_cons_zero, List.set_cons_succ]
      refine wpTill.take 5 (.pointer (some (ad.add (j * 3)))) rfl (by kernel_rfl) (by kernel_rfl) (fun _ _ _ h => h) S0 (by rfl) (fun u hu => by go_simp) ?_
      try simp only [Act.put, List.setIfInBounds_toArray, List.set_cons_zero, List.set_cons_succ]
      refine wpTill.take 6 (.agg #[.bool sy, .slice P n d, .slice Q m o]) rfl (by kernel_rfl) (by kernel_rfl) (fun _ _ _ h => h) S0 (by rfl) (fun u hu => by go_simp) ?_
      try simp only [Act.put, List.setIfInBounds_toArray, List.set_cons_zero, List.set_cons_succ]
      refine wpTill.next 7 rfl (by kernel_rfl) (by rfl) (fun K hK => ?_)
      go_simp
      refine (rback_r _ sy (.slice P n d) (.slice Q m o) y L r1 HSY.out hl HLE.out.1 HLE.out.2).mono ?_
      rintro e u1 ⟨v3, v4, rfl, hol, hf⟩
      obtain ⟨⟨P3, i3, j3, rfl⟩, ⟨P4, i4, j4, rfl⟩⟩ := hol.form
      have G1 : Fr (fun k => k ≤ w.heap.size ∨ k = w1.heap.size) wr.drew u1 := hf.mono fun k hk _ => hk
      refine hK _ _ (fun _ => KS _ G1) ?_
      clear hK K
      try simp only [Act.put, List.setIfInBounds_toArray, List.set_cons_zero, List.set_cons_succ]
      refine wpTill.next 8 rfl (by kernel_rfl) (by rfl) (fun K hK => ?_)
      go_simp
      refine hK _ _ (fun _ => KS _ (G1.alloc _)) ?_
      clear hK K
      try simp only [Act.put, List.setIfInBounds_toArray, List.set_cons_zero, List.set_cons_succ]
      have lt2 := o2.lt
      replace k1 := k1.keep hf
      replace k2 := k2.keep hf
      replace b3 := b3.keep hf
      replace o1 := o1.keep' hf
      replace o2 := o2.keep' hf
      replace HE := Lib.hid (HE.out.keep' (Rk_pos L) hf)
      have F' := fr_then F hf
      have sz := hf.size
      clear S0 g0 g1 g2 r1
      have in2 := o2.in_
      refine wpTill.next 9 rfl (by kernel_rfl) (by rfl) (fun K hK => ?_)
      refine oper_push1 rmT (v := .slice A2 n2 c2) (y := canR y) (T := fun k => wr.drew.heap.size ≤ k) rfl rfl rfl o2 ⟨_, _, rfl, hol.num.sl, hol.den.sl⟩ (fun k hk _ => ⟨by omega, fun e => by have := lt2 k e.symm; omega⟩) (fun k hk => by omega) HLn.out.1 HLn.out.2 ?_
      intro v5 u2 ho hfr hat
      obtain ⟨A3, n3, c3, rfl⟩ := ho.form
      have G2 : Fr (fun k => k ≤ w.heap.size ∨ k = w1.heap.size) wr.drew u2 := G1.comp hfr fun k _ hk => ⟨hk, fun e => by have := in2 _ e.symm; omega⟩
      refine hK _ _ (fun _ => KS _ G2) ?_
      clear hK K
      try simp only [Act.put, List.setIfInBounds_toArray, List.set_cons_zero, List.set_cons_succ]
      replace k1 := k1.fr hfr (fun e => by have := in2 _ e.symm; omega)
      replace k2 := k2.fr hfr (fun e => by have := in2 _ e.symm; omega)
      replace b3 := b3.fr hfr (fun e => by have := in2 _ e.symm; omega)
      replace o1 := o1.past hfr (fun k hk e => by have := in2 _ e.symm; omega)
      replace HE := Lib.hid (HE.out.fr (hfr.mono fun k _ hk e => by have := in2 _ e.symm; omega))
      replace F := F'.comp hfr (R := fun k => k < w.heap.size) fun k _ hk => ⟨hk, fun e => by have := in2 _ e.symm; omega⟩
      replace o2 := ho
      clear ho hfr hat hf F' in2
      have e0 := b3.c1
      have e1 := b3.free 1
      refine wpTill.next 10 rfl (by kernel_rfl) (by rfl) (fun K hK => ?_)
      go_simp
      refine hK _ _ (no_wait (by kernel_rfl)) ?_
      clear hK K
      try simp only [Act.put, List.setIfInBounds_toArray, List.set_cons_zero, List.set_cons_succ]
      refine wpTill.next 11 rfl (by kernel_rfl) (by rfl) (fun K hK => ?_)
      go_simp
      refine hK _ _ (no_wait (by kernel_rfl)) ?_
      clear hK K
      try simp only [Act.put, List.setIfInBounds_toArray, List.set_cons_zero, List.set_cons_succ]
      refine wpTill.done (by kernel_rfl) ?_
      clear e0 e1
      have F9 := fr_set1 u2 w1.heap.size 1 (.slice A3 n3 c3)
      have f1 := k1.fr F9 (by omega)
      have f2 := k2.fr F9 (by omega)
      have f3 := b3.set1 (.slice A3 n3 c3)
      have f4 := o1.past F9 (fun k hk => by omega)
      have f5 := o2.past F9 (fun k hk => by omega)
      have f6 := HE.out.fr (F9.mono fun k _ hk => by omega)
      have f7 := F.comp F9 (R := fun k => k < w.heap.size) fun k _ hk => ⟨hk, by omega⟩
      go_wp2_with fail
      go_roundw
      case rel => exact ⟨j + 1, _, by go_num, by omega, f1, f2, f3, f4, by rw [HT.out]; exact f5, f6, f7⟩
      case measure => first | (simp [intOf]; done) | (simp [intOf]; omega)
    · obtain rfl : j = es.length := by omega
      rw [List.take_length] at o2
      have d0 := b3.c0
      have d1 := b3.c1
      go_wp2_with ((with_reducible apply wpList_st2); rfl; rfl; exact k2; exact ten2; rfl; rfl; intro w9 B9 F9)
      refine bodyPost_ret (results_cell2 rfl rfl B9 Tryz.underlying26 ten2) rfl ?_
      exact ⟨_, _, rfl, (o1.past F9 fun k hk => by omega).mono fun k hk => by omega, (o2.past F9 fun k hk => by omega).mono fun k hk => by omega, F.comp F9 fun k _ hk => ⟨hk, by omega⟩⟩
end Go.Proofs.YtlppcfeimpcbjaaGreat


/- fluxionlaw07.whole: a tensor of small numbers. -/
namespace Go.Proofs.YtlppcfeimpcbjaaGreat
open Go.RowKit
/-- fluxionref03.Int, its sign under a name. -/
theorem rint_s (w : World) (z : Int) (h0 : -9223372036854775808 ≤ z) (h1 : z ≤ 9223372036854775807) :
    Calls Tryz.prog 29 #[.int .i64 z] w fun e w' => ∃ s v1 v2, e = .returned (.agg #[.bool s, v1, v2]) ∧ Hid (s = sg (z : Rat)) ∧ Hid (RR (fun k => w.heap.size ≤ k) w' v1 v2 (z : Rat) 6) ∧ Fr (fun k => k < w.heap.size) w w' := by
  refine (rint_r w z h0 h1).mono ?_
  rintro e w' ⟨v1, v2, rfl, h, hf⟩
  exact ⟨_, _, _, rfl, Lib.hid rfl, Lib.hid h, hf⟩

end Go.Proofs.YtlppcfeimpcbjaaGreat


/- shape.Offset, tensor.At. -/
namespace Go.Proofs.YtlppcfeimpcbjaaGreat
open Go.RowKit

/-- A place, up to dimension k. -/
def ofs (sh idx : List Int) : Nat → Int
  | 0 => 0
  | k + 1 => ofs sh idx k * sh.getD k 0 + idx.getD k 0
def inR (sh idx : List Int) : Prop := ∀ k, k < sh.length → 0 ≤ idx.getD k 0 ∧ idx.getD k 0 < sh.getD k 0
open Classical in
/-- Why an index has no place. -/
noncomputable def offE (sh idx : List Int) : Int := if mayS sh ≠ 0 then mayS sh else if idx.length ≠ sh.length then 2 else if inR sh idx then 0 else 21
theorem offE_no {sh idx : List Int} (h : mayS sh ≠ 0) : offE sh idx = mayS sh := if_pos h
theorem offE_2 {sh idx : List Int} (h : mayS sh = 0) (h1 : idx.length ≠ sh.length) : offE sh idx = 2 := by
  unfold offE
  rw [if_neg (by simpa using h), if_pos h1]
theorem offE_21 {sh idx : List Int} (h : mayS sh = 0) (h1 : idx.length = sh.length) (h2 : ¬ inR sh idx) : offE sh idx = 21 := by
  unfold offE
  rw [if_neg (by simpa using h), if_neg (by simpa using h1), if_neg h2]
theorem offE_0 {sh idx : List Int} (h : mayS sh = 0) (h1 : idx.length = sh.length) (h2 : inR sh idx) : offE sh idx = 0 := by
  unfold offE
  rw [if_neg (by simpa using h), if_neg (by simpa using h1), if_pos h2]
theorem offE_ok {sh idx : List Int} (h : offE sh idx = 0) : mayS sh = 0 ∧ idx.length = sh.length ∧ inR sh idx := by
  unfold offE at h
  split at h
  · rename_i h1; exact absurd h h1
  · rename_i h1
    split at h
    · omega
    · rename_i h2
      split at h
      · rename_i h3; exact ⟨by simpa using h1, by simpa using h2, h3⟩
      · omega
theorem getI_at {l : List Int} {j : Nat} (h : j < l.length) : l.getD j 0 = l[j] := by rw [List.getD_eq_getElem?_getD, List.getElem?_eq_getElem h]; rfl
/-- A place is one of those that the dimensions count. -/
theorem ofs_lt {sh idx : List Int} (h1 : ∀ d ∈ sh, 1 ≤ d) {k : Nat} (hk : k ≤ sh.length) (h : ∀ i, i < k → 0 ≤ idx.getD i 0 ∧ idx.getD i 0 < sh.getD i 0) : 0 ≤ ofs sh idx k ∧ ofs sh idx k < pr (sh.take k) := by
  induction k with
  | zero => simp [ofs, pr]
  | succ k ih =>
    obtain ⟨a, b⟩ := ih (by omega) (fun i hi => h i (by omega))
    obtain ⟨c, d⟩ := h k (by omega)
    have hd := h1 _ (List.getElem_mem (show k < sh.length by omega))
    rw [pr_take (by omega)]
    rw [getI_at (show k < sh.length by omega)] at d
    simp only [ofs]
    rw [getI_at (show k < sh.length by omega)]
    generalize sh[k] = D at hd d
    generalize ofs sh idx k = o at a b
    generalize pr (sh.take k) = p at b
    generalize idx.getD k 0 = x at c d
    have e1 : 0 ≤ o * D := Int.mul_nonneg a (by omega)
    have e2 : (o + 1) * D ≤ p * D := Int.mul_le_mul_of_nonneg_right (by omega) (by omega)
    rw [Int.add_mul, Int.one_mul] at e2
    omega

set_option maxHeartbeats 4000000 in
theorem offset_t {S T : Nat → Prop} (w : World) (va vb : Value) (sh idx : List Int) (ha : Sl Im S w va sh) (hb : Sl Im T w vb idx) :
    Calls Tryz.prog 46 #[va, vb] w fun e w' => e = .returned (.tuple #[.int .i64 (if offE sh idx = 0 then ofs sh idx sh.length else 0), .int .i64 (offE sh idx)]) ∧ w' = w := by
  obtain ⟨A, c, rfl, _, _, hlx⟩ := ha.slice
  obtain ⟨A', c', rfl, _, _, hly⟩ := hb.slice
  have p := shmay_calls w (.slice A sh.length c) sh ha
  obtain ⟨e, he⟩ : ∃ e, e = mayS sh := ⟨_, rfl⟩
  obtain ⟨r, hr⟩ : ∃ r, r = offE sh idx := ⟨_, rfl⟩
  obtain ⟨z, hz⟩ : ∃ z, z = (if offE sh idx = 0 then ofs sh idx sh.length else 0) := ⟨_, rfl⟩
  rw [← he] at p
  rw [← hz, ← hr]
  have HA := Lib.hid ha
  have HB := Lib.hid hb
  have HE := Lib.hid he
  have HR := Lib.hid hr
  have HZ := Lib.hid hz
  clear ha hb he hr hz
  go_enter Tryz.func46, Tryz.ntmps46
  by_cases h0 : e = 0
  · subst h0
    by_cases hl : idx.length = sh.length
    · have hli : ((idx.length : Int) == (sh.length : Int)) = true := by simp [hl]
      obtain ⟨h4, h1, h2⟩ := mayS_ok HE.out.symm
      have H1 := Lib.hid h1
      have hlt4 : sh.length ≤ 4 := h4
      clear h1
      go_wp2_with fail
      refine p.mono ?_
      rintro e w1 ⟨rfl, rfl⟩
      go_wp2_with fail
      go_loop [7, 22] (fun n i => ∃ (j : Nat) (m : Int), j ≤ sh.length ∧ i = .int .i64 j ∧ n = .int .i64 m ∧ 0 ≤ m ∧ m ≤ 1024 ∧ Hid (m = ofs sh idx j) ∧ Hid (∀ k, k < j → 0 ≤ idx.getD k 0 ∧ idx.getD k 0 < sh.getD k 0)) (fun _ i => sh.length - (intOf i).toNat)
      case atStart => exact ⟨0, 0, Nat.zero_le _, rfl, rfl, by omega, by omega, Lib.hid rfl, Lib.hid (fun k hk => by omega)⟩
      case round =>
        obtain ⟨j, m, hj, rfl, rfl, hm1, hm2, hm, HK⟩ := hrel
        by_cases hlt : j < sh.length
        · have hlt2 : j < idx.length := by omega
          obtain ⟨ad, rfl, hx, hx1, hx2⟩ := Kd.int_cell HA.out (i := j) hlt
          obtain ⟨ad', rfl, hy, hy1, hy2⟩ := Kd.int_cell HB.out (i := j) hlt2
          have e1 := getI_at hlt
          have e2 := getI_at hlt2
          have hd1 := H1.out _ (List.getElem_mem hlt)
          have hpt := pr_take hlt
          have hpp := pr_take_pos H1.out j
          have hle := pr_take_le H1.out (j + 1)
          have hol := ofs_lt H1.out (Nat.le_of_lt hlt) HK.out
          rw [← hm.out] at hol
          generalize sh[j] = d at hx hx1 hx2 e1 hd1 hpt
          generalize idx[j] = x at hy hy1 hy2 e2
          have hdd : d ≤ 1024 := by
            have := Int.mul_le_mul hpp (Int.le_refl d) (by omega) (by omega)
            omega
          have HX := Lib.hid (And.intro e1 e2)
          by_cases hr1 : x < 0
          · have HN : r = 21 := HR.out.trans (offE_21 HE.out.symm hl fun h => by have := (h j hlt).1; rw [HX.out.2] at this; omega)
            have HM : z = 0 := HZ.out.trans (if_neg (by rw [← HR.out, HN]; decide))
            clear e1 e2 hpt hpp hle hol
            go_wp2_with fail
            go_ret2
            exact ⟨by first | rfl | rw [HN, HM]; rfl, rfl⟩
          · by_cases hr2 : d ≤ x
            · have HN : r = 21 := HR.out.trans (offE_21 HE.out.symm hl fun h => by have := (h j hlt).2; rw [HX.out.1, HX.out.2] at this; omega)
              have HM : z = 0 := HZ.out.trans (if_neg (by rw [← HR.out, HN]; decide))
              clear e1 e2 hpt hpp hle hol
              go_wp2_with fail
              go_ret2
              exact ⟨by first | rfl | rw [HN, HM]; rfl, rfl⟩
            · have e0 : 0 ≤ m * d := Int.mul_nonneg hm1 (by omega)
              have e4 : m * d ≤ 1024 * 1024 := Int.mul_le_mul hm2 hdd (by omega) (by omega)
              have hw1 : IntKind.i64.wrap (m * d) = m * d := by rw [IntKind.wrap_i64]; omega
              have hw2 : IntKind.i64.wrap (m * d + x) = m * d + x := by rw [IntKind.wrap_i64]; omega
              have HK' : Hid (∀ k, k < j + 1 → 0 ≤ idx.getD k 0 ∧ idx.getD k 0 < sh.getD k 0) := Lib.hid (fun k hk => by
                rcases Nat.lt_succ_iff_lt_or_eq.1 hk with h | rfl
                · exact HK.out k h
                · rw [HX.out.1, HX.out.2]; omega)
              have hol2 := ofs_lt H1.out (k := j + 1) hlt HK'.out
              have HM : Hid (m * d + x = ofs sh idx (j + 1)) := Lib.hid (by rw [ofs, ← hm.out, HX.out.1, HX.out.2])
              rw [← HM.out] at hol2
              have hb2 : m * d + x ≤ 1024 := by omega
              have hb1 : 0 ≤ m * d + x := by omega
              clear e1 e2 hpt hpp hle hol hol2
              go_wp2_with fail
              go_round
              case rel => exact ⟨j + 1, m * d + x, by omega, by go_num, rfl, hb1, hb2, HM, HK'⟩
              case measure => simp [intOf]; omega
        · obtain rfl : j = sh.length := by omega
          have HN : r = 0 := HR.out.trans (offE_0 HE.out.symm hl HK.out)
          have HM : z = m := HZ.out.trans ((if_pos (by rw [← HR.out, HN])).trans hm.out.symm)
          go_wp2_with fail
          go_ret2
          exact ⟨by first | rfl | rw [HN, HM]; rfl, rfl⟩
    · have hli : ((idx.length : Int) == (sh.length : Int)) = false := by rw [beq_eq_false_iff_ne]; omega
      have HN : r = 2 := HR.out.trans (offE_2 HE.out.symm hl)
      have HM : z = 0 := HZ.out.trans (if_neg (by rw [← HR.out, HN]; decide))
      go_wp2_with fail
      refine p.mono ?_
      rintro e w1 ⟨rfl, rfl⟩
      go_wp2_with fail
      go_ret2
      exact ⟨by first | rfl | rw [HN, HM]; rfl, rfl⟩
  · have HN : r = e := HR.out.trans ((offE_no (by rw [← HE.out]; exact h0)).trans HE.out.symm)
    have HM : z = 0 := HZ.out.trans (if_neg (by rw [← HR.out, HN]; exact h0))
    go_wp2_with fail
    refine p.mono ?_
    rintro e w1 ⟨rfl, rfl⟩
    go_wp2_with fail
    go_ret2
    exact ⟨by first | rfl | rw [HN, HM]; rfl, rfl⟩

/-- Why there is no element. -/
noncomputable def atE (sh : List Int) (es : List RatL) (idx : List Int) : Int := if mayT sh es ≠ 0 then mayT sh es else offE sh idx
theorem atE_no {sh idx : List Int} {es : List RatL} (h : mayT sh es ≠ 0) : atE sh es idx = mayT sh es := if_pos h
theorem atE_off {sh idx : List Int} {es : List RatL} (h : mayT sh es = 0) : atE sh es idx = offE sh idx := if_neg (by simpa using h)
theorem atE_ok {sh idx : List Int} {es : List RatL} (h : atE sh es idx = 0) : mayT sh es = 0 ∧ offE sh idx = 0 := by
  unfold atE at h
  split at h
  · rename_i h1; exact absurd h h1
  · rename_i h1; exact ⟨by simpa using h1, h⟩
theorem place_lt {sh idx : List Int} {es : List RatL} (h : atE sh es idx = 0) : 0 ≤ ofs sh idx sh.length ∧ (ofs sh idx sh.length).toNat < es.length := by
  obtain ⟨h1, h2⟩ := atE_ok h
  obtain ⟨h3, h4, _⟩ := mayT_ok h1
  obtain ⟨_, _, h5⟩ := offE_ok h2
  obtain ⟨_, h6, _⟩ := mayS_ok h3
  have := ofs_lt h6 (Nat.le_refl sh.length) h5
  rw [List.take_length, ← cntS_ok h3, ← h4] at this
  omega

/-- What At answers. -/
def AtR (w : World) (sh idx : List Int) (es : List RatL) (L : Nat) (r : Int) (e : Ending) (w' : World) : Prop := ∃ s v1 v2, e = .returned (.tuple #[.agg #[.bool s, v1, v2], .int .i64 r]) ∧ (r ≠ 0 → v1 = .slice none 0 0 ∧ v2 = .slice none 0 0) ∧
  (r = 0 → s = sg (qOf (es.getD (ofs sh idx sh.length).toNat zR)) ∧ RV (fun k => w.heap.size ≤ k) w' v1 v2 (qOf (es.getD (ofs sh idx sh.length).toNat zR)) L) ∧ Fr (fun k => k < w.heap.size) w w'

set_option maxHeartbeats 4000000 in
theorem at_t {S T U : Nat → Prop} (w : World) (vs ve vi : Value) (sh idx : List Int) (es : List RatL) (L : Nat) (hs : Sl Im S w vs sh) (he : Sl Rm T w ve es) (hi : Sl Im U w vi idx) (hL : ∀ x ∈ es, x.2.1.length ≤ L ∧ x.2.2.length ≤ L) (hL1 : 1 ≤ L) (hl : L ≤ 104857600) :
    Calls Tryz.prog 110 #[.agg #[vs, ve], vi] w (AtR w sh idx es L (atE sh es idx)) := by
  obtain ⟨A, c, rfl, _, _, hlx⟩ := hs.slice
  obtain ⟨A', c', rfl, _, _, hly⟩ := he.slice
  obtain ⟨A2, c2, rfl, _, _, hlz⟩ := hi.slice
  have F := fun R => ((Fr.refl R w).alloc (.cells #[.slice A sh.length c, .slice A' es.length c'] 26)).alloc (.cells #[.bool false, .slice none 0 0, .slice none 0 0] 54)
  have HS := Lib.hid (hs.up Im_pos (Nat.le_refl _) (F _))
  have HE := Lib.hid (he.up Rm_pos (Nat.le_refl _) (F _))
  have HI := Lib.hid (hi.up Im_pos (Nat.le_refl _) (F _))
  have b1 := (Box2.new w 26 (.slice A sh.length c) (.slice A' es.length c')).alloc (.cells #[.bool false, .slice none 0 0, .slice none 0 0] 54)
  have b2 := Box3.new (w.alloc (.cells #[.slice A sh.length c, .slice A' es.length c'] 26)) 54 (.bool false) (.slice none 0 0) (.slice none 0 0)
  simp only [World.size_alloc] at b2
  replace F := F (fun k => k < w.heap.size)
  generalize hW : (w.alloc (.cells #[.slice A sh.length c, .slice A' es.length c'] 26)).alloc (.cells #[.bool false, .slice none 0 0, .slice none 0 0] 54) = W at HS HE HI b1 b2 F
  obtain ⟨r, hr⟩ : ∃ r, r = atE sh es idx := ⟨_, rfl⟩
  rw [← hr]
  have HR := Lib.hid hr
  have p := may_t W _ _ sh es L HS.out HE.out hL hL1 hl
  obtain ⟨f, hf⟩ : ∃ f, f = mayT sh es := ⟨_, rfl⟩
  rw [← hf] at p
  have HF := Lib.hid hf
  have PP := Lib.hid p
  have HL := Lib.hid hL
  have c0 := b1.c0
  have c1 := b1.c1
  clear hs he hi hr hf p hL
  go_enter Tryz.func110, Tryz.ntmps110
  go_wp2_with fail
  with_reducible refine PP.out.mono ?_
  rintro e w1 ⟨rfl, hf1⟩
  replace HS := Lib.hid (HS.out.keep' Im_pos hf1)
  replace HE := Lib.hid (HE.out.keep' Rm_pos hf1)
  replace HI := Lib.hid (HI.out.keep' Im_pos hf1)
  replace b1 := b1.keep hf1
  replace b2 := b2.keep hf1
  replace F := fr_then F hf1
  have l1 := b1.lt
  have l2 := b2.lt
  clear hf1 hW PP c0 c1
  by_cases h0 : f = 0
  · subst h0
    have hoff := HR.out.trans (atE_off HF.out.symm)
    have q := offset_t w1 _ _ sh idx HS.out HI.out
    rw [← hoff] at q
    have c0 := b1.c0
    have c1 := b1.c1
    by_cases h1 : r = 0
    · subst h1
      have hpl := place_lt HR.out.symm
      rw [if_pos rfl] at q
      obtain ⟨m, hm⟩ : ∃ m : Nat, ofs sh idx sh.length = (m : Int) := ⟨(ofs sh idx sh.length).toNat, by omega⟩
      have hm2 : (ofs sh idx sh.length).toNat = m := by omega
      rw [hm] at q hpl
      rw [Int.toNat_natCast] at hpl
      have hmlt := hpl.2
      obtain ⟨ad, P, n, d, Q, m', o, rfl, hS, g0, g1, g2, r1, r2⟩ := Rm_get HE.out hmlt
      have hlen := HL.out _ (List.getElem_mem hmlt)
      have hmlt' := hmlt
      generalize hey : es[m] = y at g0 r1 r2 hlen
      have HG : Hid (es.getD (ofs sh idx sh.length).toNat zR = y) := Lib.hid (by rw [hm2, List.getD_eq_getElem?_getD, List.getElem?_eq_getElem hmlt]; exact hey)
      have HQ := Lib.hid q
      have HN := Lib.hid (norm_n w1 y.1 (.slice P n d) (.slice Q m' o) (qOf y) _ _ L ⟨⟨y.2.1, r1, rfl, hlen.1⟩, ⟨y.2.2, r2, rfl, hlen.2⟩, rfl⟩ hL1 (by omega))
      generalize y.1 = sy at g0 HN
      clear q hpl r1 r2 hlen hoff hm hm2 hey hmlt'
      go_wp2_with fail
      with_reducible refine HQ.out.mono ?_
      rintro e w2 ⟨rfl, rfl⟩
      go_wp2_with fail
      with_reducible refine HN.out.mono ?_
      rintro e w3 ⟨v1, v2, rfl, h3, hf⟩
      obtain ⟨⟨B1, m1, k1, rfl⟩, ⟨B2, m2, k2, rfl⟩⟩ := h3.form
      have sz := hf.size
      have b3 := b2.keep hf
      have F3 := fr_then F hf
      clear HQ HN hf
      go_wp2_with ((with_reducible apply wpList_st3); rfl; rfl; exact b3; exact rat3; rfl; rfl; rfl; intro w9 B9 F9)
      refine bodyPost_ret (results_cell3_tmp rfl rfl B9 Tryz.underlying54 rat3) rfl ?_
      exact ⟨_, _, _, rfl, fun h => absurd rfl h, fun _ => by rw [HG.out]; exact ⟨rfl, (h3.out F9 (b := w.heap.size) (fun k hk => by omega) (by omega))⟩, F3.comp F9 fun k _ hk => ⟨hk, by omega⟩⟩
    · rw [if_neg h1] at q
      have HQ := Lib.hid q
      clear q hoff
      go_wp2_with fail
      with_reducible refine HQ.out.mono ?_
      rintro e w2 ⟨rfl, rfl⟩
      clear HQ
      go_wp2_with ((with_reducible apply wpList_st3); rfl; rfl; exact b2; exact rat3; rfl; rfl; rfl; intro w9 B9 F9)
      refine bodyPost_ret (results_cell3_tmp rfl rfl B9 Tryz.underlying54 rat3) rfl ?_
      exact ⟨_, _, _, rfl, fun _ => ⟨rfl, rfl⟩, fun h => absurd h h1, F.comp F9 fun k _ hk => ⟨hk, by omega⟩⟩
  · have HN : r = f := HR.out.trans ((atE_no (by rw [← HF.out]; exact h0)).trans HF.out.symm)
    go_wp2_with ((with_reducible apply wpList_st3); rfl; rfl; exact b2; exact rat3; rfl; rfl; rfl; intro w9 B9 F9)
    refine bodyPost_ret (results_cell3_tmp rfl rfl B9 Tryz.underlying54 rat3) rfl ?_
    exact ⟨false, .slice none 0 0, .slice none 0 0, by first | rfl | rw [HN]; rfl, fun _ => ⟨rfl, rfl⟩, fun h => absurd (HN.symm.trans h) h0, F.comp F9 fun k _ hk => ⟨hk, by omega⟩⟩
end Go.Proofs.YtlppcfeimpcbjaaGreat


/- A drawn region in a round; what turns no cells leaves rows as they lie. -/
namespace Go.Proofs.YtlppcfeimpcbjaaGreat
open Go.RowKit

/-- What holds of an operation's outcome holds of it in a round, too. -/
theorem upon_in {P : Program} {o : Oper} {a : Act} {K : Act → World → Prop} {Q : Exit → Act → World → Prop} (l n : Nat) {r : Result Next} (h : o.upon P a K Q r) : o.uponIn (Fence.wide.inRound l) n P a K Q r := by
  cases r with
  | ok x w =>
    cases x with
    | value v => exact h
    | skip => exact h
    | defer d => exact h
    | enter f args => exact ⟨fun hd => by simp [Fence.wide] at hd, CallsIn.inRound l (callsIn_wide.2 h)⟩
    | row row args => exact ⟨fun hd => by simp [Fence.wide] at hd, fun c cs _ => let ⟨v, w', r, s⟩ := h c cs; ⟨v, w', r, (stepsIn_wide (P := P)).2 s⟩⟩
    | _ => exact h.elim
  | halt x w =>
    cases x with
    | panic v => exact h
    | _ => exact h.elim
theorem oper_in {P : Program} {o : Oper} {a : Act} {w : World} {K : Act → World → Prop} {Q : Exit → Act → World → Prop} (l n : Nat) (hd : ∀ c, o.op ≠ .defer c) (h : o.wp P a w K Q) : o.wpIn (Fence.wide.inRound l) n P a w K Q :=
  ⟨fun _ _ => trivial, by rw [Oper.semAt_eq _ _ _ hd]; exact upon_in l n h⟩
theorem wpOp_in {P : Program} {ops : Array Oper} {Q : Exit → Act → World → Prop} {i : Nat} {K : Act → World → Prop} {a : Act} {w : World} (l n : Nat) (hno : ¬ LetsOut Q) (hd : ∀ o, ops[i]? = some o → ∀ c, o.op ≠ .defer c) (h : wpOp P ops Q i K a w) : wpOpIn (Fence.wide.inRound l) n P ops Q i K a w := by
  unfold wpOp at h
  unfold wpOpIn
  cases ho : ops[i]? with
  | none => simpa [ho] using h
  | some o =>
    simp only [ho] at h ⊢
    split
    · rename_i hw
      simp only [hw, if_true] at h
      rcases h with h | h
      · exact oper_in l n (hd o ho) h
      · exact absurd h.2 hno
    · rename_i hw
      simp only [hw] at h
      exact ⟨fun _ _ => trivial, h⟩
theorem wpAny_in {P : Program} {md : Region.Mode} {ops : Array Oper} {Q : Exit → Act → World → Prop} (l n : Nat) (hno : ¬ LetsOut Q) (hd : ∀ (i : Nat) (o : Oper), ops[i]? = some o → ∀ c, o.op ≠ .defer c) : ∀ (m : Nat) (done : Array Bool) (a : Act) (w : World), wpAny P md ops Q m done a w → wpAnyIn (Fence.wide.inRound l) n P md ops Q m done a w
  | 0, _, _, _, h => h
  | m + 1, _, _, _, h => ⟨h.1, fun k hk => wpOp_in l n hno (hd k) (wpOp_mono (fun b u hb => wpAny_in l n hno hd m _ b u hb) (h.2 k hk))⟩
def noDefers (ops : Array Oper) : Bool := ops.all fun o => match o.op with | .defer _ => false | _ => true
theorem noDefers_spec {ops : Array Oper} (h : noDefers ops = true) : ∀ (i : Nat) (o : Oper), ops[i]? = some o → ∀ c, o.op ≠ .defer c := by
  intro i o ho c hc
  have := Array.all_eq_true_iff_forall_mem.1 h o (Array.mem_of_getElem? ho)
  rw [hc] at this
  cases this
theorem wpTill.beginIn {P : Program} {ops : Array Oper} {Q : Exit → Act → World → Prop} (S : World → Prop) (j : Nat) {id l n : Nat} {a : Act} {w : World} (hm : P.follows .mixedOrders = true) (hd : noDefers ops = true) (hno : ¬ LetsOut Q)
    (h : wpTill P .any ops Q S j ops.size (Array.replicate ops.size false) a w.drew) : (Code.region id ops true).wpIn (Fence.wide.inRound l) n P Q a w :=
  wpIn_region_any hm (wpAny_in l n hno (noDefers_spec hd) _ _ _ _ (h.any _ _ _ _))

/-- Block k holds cells. -/
def Cl (w : World) (k : Nat) : Prop := ∃ cs t f, w.heap[k]? = some (.cells cs t f)
theorem cl_of_cell {w : World} {a : Addr} {u : Value} (h : w.cell? a = some u) : Cl w a.block := by
  unfold World.cell? at h
  split at h
  · rename_i c t f hc; exact ⟨c, t, f, hc⟩
  · cases h
theorem Lm_cl {S : Nat → Prop} {w : World} {v : Value} {xs : List Nat} (h : Sl Lm S w v xs) : Sl Lm (fun k => S k ∧ Cl w k) w v xs := by
  obtain ⟨A, c, rfl, h1, h2, h3, h4⟩ := h
  refine ⟨A, c, rfl, h1, h2, h3, fun hl => ?_⟩
  obtain ⟨ad, rfl, hS, hc⟩ := h4 hl
  refine ⟨ad, rfl, ⟨hS, ?_⟩, hc⟩
  obtain ⟨cs, hr, hu⟩ := hc 0 xs[0] (List.getElem?_eq_getElem hl)
  obtain ⟨u, hu0⟩ := Kd.cells_size hr Lm_pos
  have := cl_of_cell (hu 0 u hu0)
  rwa [addr_block] at this
theorem Rm_cl {S : Nat → Prop} {w : World} {x : RatL} {cs : List Value} (h : Rm.rd S w x cs) : Rm.rd (fun k => S k ∧ Cl w k) w x cs := by
  obtain ⟨vn, vd, e, hn, hd⟩ := h
  exact ⟨vn, vd, e, Lm_cl hn, Lm_cl hd⟩
theorem own_block_cl {α : Type} {K : Kd α} {e : TypeId} {S : Nat → Prop} {w : World} {v : Value} {xs : List α} (h : Own K e S w v xs) {g : Nat} (hg : v.ownBlock = some g) : Cl w g := by
  obtain ⟨cells, h1, _, _⟩ := h
  rcases h1.2 with ⟨rfl, _⟩ | ⟨g', cap, cur, rfl, _, hgg, _⟩
  · simp [Value.ownBlock] at hg
  · simp [Value.ownBlock] at hg
    subst hg
    exact ⟨_, _, _, hgg⟩
theorem Own.cl {α : Type} {K : Kd α} {e : TypeId} {S : Nat → Prop} {w : World} {v : Value} {xs : List α} (hcl : ∀ T x cs, K.rd T w x cs → K.rd (fun k => T k ∧ Cl w k) w x cs) (h : Own K e S w v xs) : Own K e (fun k => S k ∧ Cl w k) w v xs := by
  have hb := fun g hg => own_block_cl h (g := g) hg
  obtain ⟨cells, h1, h2, h3⟩ := h
  exact ⟨cells, h1, fun g hg => ⟨h2 g hg, hb g hg⟩, fun i x hx => let ⟨cs, hr, hu⟩ := h3 i x hx; ⟨cs, K.mono (fun k hk => ⟨⟨hk.1.1, hk.2⟩, hk.1.2⟩) (hcl _ _ _ hr), hu⟩⟩
/-- A row lies as it lay, where a block that is no cells is turned. -/
theorem Own.turn {α : Type} {K : Kd α} {e : TypeId} {S : Nat → Prop} {w w' : World} {v : Value} {xs : List α} (hcl : ∀ T x cs, K.rd T w x cs → K.rd (fun k => T k ∧ Cl w k) w x cs) (h : Own K e S w v xs) {row : Option Nat} (hg : w.grownBy w' row) {B : Nat} (hr : ∀ r, row = some r → B ≤ r ∧ ∃ o : Obj, w.heap[r]? = some o ∧ o.isCells = false) : Own K e S w' v xs :=
  ((Own.cl hcl h).fr ((Fr.of_grown hg).mono fun k _ hk e => by
    obtain ⟨_, o, ho, hc⟩ := hr k e.symm
    obtain ⟨cs, t, f, hh⟩ := hk.2
    rw [hh] at ho
    cases ho
    cases hc)).mono fun _ hk => hk.1
theorem keeps_push {α : Type} {K : Kd α} {e : TypeId} {S : Nat → Prop} {w w' : World} {v : Value} {xs : List α} (B : Nat) (h : Own K e S w v xs) (hf : Fr (fun k => some k ≠ v.ownBlock) w w') : KeepsFrom B w w' :=
  ⟨hf.size, fun k o _ hk ho => hf.obj hk fun e => by
    obtain ⟨cs, t, f, hh⟩ := own_block_cl h e.symm
    rw [hh] at hk
    cases hk
    cases ho⟩
theorem keeps_cell (B : Nat) (w : World) (p : Addr) (u : Value) : KeepsFrom B w (w.setCell p u) := (KeepsOthers.setCell _ _ _).from B
end Go.Proofs.YtlppcfeimpcbjaaGreat

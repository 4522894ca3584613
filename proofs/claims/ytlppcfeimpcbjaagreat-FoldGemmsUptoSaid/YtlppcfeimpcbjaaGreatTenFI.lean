/- Texts merged: TenF, TenG, TenH, TenI. -/
import Derived.Test.YtlppcfeimpcbjaaGreatTenE
set_option linter.unusedSimpArgs false
set_option linter.unusedVariables false

/- tensor.May. -/
namespace Go.Proofs.YtlppcfeimpcbjaaGreat
open Go.RowKit Go.Shelf
attribute [local go_sem] Oper.semAt_some

/-- A rational's number. -/
def qOf (x : RatL) : Rat := rv x.1 (val x.2.1) (val x.2.2)
/-- May it be? -/
def LikeR (x : RatL) : Prop := Like x.1 x.2.1 x.2.2 (qOf x)
instance (x : RatL) : Decidable (LikeR x) := by unfold LikeR; exact inferInstance
def zR : RatL := (false, [], [])
/-- Why a tensor may not be. -/
def mayT (sh : List Int) (es : List RatL) : Int := if fitsT sh es.length ≠ 0 then fitsT sh es.length else if ∀ x ∈ es, LikeR x then 0 else 6
theorem mayT_no {sh : List Int} {es : List RatL} (h : fitsT sh es.length ≠ 0) : mayT sh es = fitsT sh es.length := if_pos h
theorem mayT_0 {sh : List Int} {es : List RatL} (h : fitsT sh es.length = 0) (h1 : ∀ x ∈ es, LikeR x) : mayT sh es = 0 := by
  unfold mayT
  rw [if_neg (by simpa using h), if_pos h1]
theorem mayT_6 {sh : List Int} {es : List RatL} (h : fitsT sh es.length = 0) (h1 : ¬ ∀ x ∈ es, LikeR x) : mayT sh es = 6 := by
  unfold mayT
  rw [if_neg (by simpa using h), if_neg h1]
theorem mayT_ok {sh : List Int} {es : List RatL} (h : mayT sh es = 0) : mayS sh = 0 ∧ (es.length : Int) = cntS sh ∧ ∀ x ∈ es, LikeR x := by
  unfold mayT at h
  split at h
  · rename_i h1; exact absurd h h1
  · rename_i h1
    split at h
    · rename_i h2
      have h3 : fitsT sh es.length = 0 := by simpa using h1
      unfold fitsT at h3
      split at h3
      · rename_i h4; exact absurd h3 h4
      · rename_i h4
        split at h3
        · omega
        · rename_i h5; exact ⟨by simpa using h4, by simpa using h5, h2⟩
    · omega

/-- The elements, and what a place behind them is given as. -/
theorem Rm_all {S : Nat → Prop} {w : World} {es : List RatL} {A : Option Addr} {c : Nat} (h : Sl Rm S w (.slice A es.length c) es) : ∃ E : Nat → Value, (∀ i, i < es.length → Elem S w A i (E i)) ∧ ∀ i, RatV S w (E i) (es.getD i zR) := by
  obtain ⟨E, hE⟩ := Rm_fun h
  refine ⟨fun i => if i < es.length then E i else .agg #[.bool false, .slice none 0 0, .slice none 0 0], fun i hi => ?_, fun i => ?_⟩
  · simp only [hi, if_true]
    exact (hE i hi).1
  · by_cases hi : i < es.length
    · simp only [hi, if_true, List.getD_eq_getElem?_getD, List.getElem?_eq_getElem hi, Option.getD_some]
      exact (hE i hi).2
    · simp only [hi, if_false, List.getD_eq_getElem?_getD, List.getElem?_eq_none (Nat.le_of_not_lt hi), Option.getD_none]
      exact ⟨none, 0, 0, none, 0, 0, rfl, Sl.nil _ _ _, Sl.nil _ _ _⟩
theorem getD_len {es : List RatL} {L : Nat} (h : ∀ x ∈ es, x.2.1.length ≤ L ∧ x.2.2.length ≤ L) (i : Nat) : (es.getD i zR).2.1.length ≤ L ∧ (es.getD i zR).2.2.length ≤ L := by
  rw [List.getD_eq_getElem?_getD]
  cases hi : es[i]? with
  | none => exact ⟨Nat.zero_le _, Nat.zero_le _⟩
  | some x => exact h x (List.mem_of_getElem? hi)
theorem getD_mem {es : List RatL} {i : Nat} (hi : i < es.length) : es.getD i zR ∈ es := by
  rw [List.getD_eq_getElem?_getD, List.getElem?_eq_getElem hi]
  exact List.getElem_mem hi
theorem mem_getD {es : List RatL} {x : RatL} (h : x ∈ es) : ∃ i, i < es.length ∧ es.getD i zR = x := by
  obtain ⟨i, hi, rfl⟩ := List.mem_iff_getElem.1 h
  exact ⟨i, hi, by rw [List.getD_eq_getElem?_getD, List.getElem?_eq_getElem hi]; rfl⟩

/-- A block of cells lies as it lay, where none but others are turned. -/
theorem grown_cells {B : Nat} {W W' : World} {row : Option Nat} (hg : W.grownBy W' row) (hr : ∀ r, row = some r → B ≤ r ∧ ∃ o : Obj, W.heap[r]? = some o ∧ o.isCells = false) {b : Nat} {cs : Array Value} {t : TypeId} {f : Nat × Nat} (h : W.heap[b]? = some (.cells cs t f)) : W'.heap[b]? = some (.cells cs t f) := by
  refine (hg.block b (Array.getElem?_eq_some_iff.1 h).1 fun e => ?_).trans h
  obtain ⟨_, o, ho, hc⟩ := hr b e.symm
  rw [h] at ho
  cases ho
  cases hc
theorem keeps_alloc (B : Nat) (W : World) (o : Obj) : KeepsFrom B W (W.alloc o) := KeepsFrom.of_grownBy (World.grownBy_alloc W o none) (fun j e => by cases e)
theorem keeps_fr {W W' : World} (B : Nat) (h : Fr (fun k => k < W.heap.size) W W') : KeepsFrom B W W' := (keepsOthers_fr h).from B

/-- A loop's variable of three cells. -/
def VarX (B : Nat) (E : Nat → Value) (T : Nat → Value → Act) (x : Nat) (a : Act) (W : World) : Prop :=
  ∃ b s P n c Q m k, a = T x (.pointer (some ⟨b, 0, none⟩)) ∧ B ≤ b ∧ E x = .agg #[.bool s, .slice P n c, .slice Q m k] ∧ Box3 W b 54 (.bool s) (.slice P n c) (.slice Q m k)
theorem VarX.own (B C : Nat) (E : Nat → Value) (T : Nat → Value → Act) (x : Nat) (a : Act) : OwnFrom C (fun (_ : Unit) W => VarX B E T x a W) := fun _ W W' row hs hg hr => by
  obtain ⟨b, s, P, n, c, Q, m, k, e, hb, hE, hx⟩ := hs
  exact ⟨b, s, P, n, c, Q, m, k, e, hb, hE, grown_cells hg hr hx⟩

/-- What lies in memory while the elements are gone over: the variable in block b, and all below n as it lay. -/
def MayI (n b : Nat) (t : TypeId) (w W : World) : Prop := (∃ r, Box W b t r) ∧ Fr (fun k => k < n) w W
theorem MayI.keep {n b : Nat} {t : TypeId} {w W W' : World} (h : MayI n b t w W) {S : Nat → Prop} (hf : Fr S W W') (hS : ∀ k, k < n ∨ k = b → S k) : MayI n b t w W' := by
  obtain ⟨⟨r, hb⟩, h⟩ := h
  exact ⟨⟨r, hb.fr hf (hS _ (.inr rfl))⟩, h.comp hf fun k _ hk => ⟨hk, hS _ (.inl hk)⟩⟩
/-- A function leaves with the mark of its loop among its deferred calls; its result lies in a cell. -/
theorem leaves_mark {P : Program} {fn : Func} {tmps : Array Value} {R : Ending → World → Prop} {D : Nat} {W : World} {calls : List Deferred} (hK : W.heap[D]? = some (.deferred (some calls))) (hc : calls = []) {v : Value}
    (hr : (results fn tmps).run P (W.putObj D (.deferred none)) = .ok v (W.putObj D (.deferred none))) (h : R (.returned v) (W.putObj D (.deferred none))) {a : Act} (ha : a = { tmps := tmps, defers := [{ target := .collected D, args := #[] }] }) :
    bodyPostM Fence.wide 3 P fn R .ret a W := by
  subst hc ha
  exact ⟨by simp, .inl ⟨_, _, rfl, run_takeDeferred hK, v, hr, h⟩⟩

set_option maxRecDepth 100000 in
set_option maxHeartbeats 4000000 in
theorem may_t {S T : Nat → Prop} (w : World) (vs ve : Value) (sh : List Int) (es : List RatL) (L : Nat) (hs : Sl Im S w vs sh) (he : Sl Rm T w ve es) (hL : ∀ x ∈ es, x.2.1.length ≤ L ∧ x.2.2.length ≤ L) (hL1 : 1 ≤ L) (hl : L ≤ 104857600) :
    Calls Tryz.prog 25 #[.agg #[vs, ve]] w fun e w' => e = .returned (.int .i64 (mayT sh es)) ∧ Fr (fun k => k < w.heap.size) w w' := by
  obtain ⟨A, c, rfl, _, _, hlx⟩ := hs.slice
  obtain ⟨A', c', rfl, _, _, hly⟩ := he.slice
  have F0 := fun R => ((Fr.refl R w).alloc (.cells #[.slice A sh.length c, .slice A' es.length c'] 26)).alloc (.cells #[.int .i64 0] 29)
  have hs0 := hs.keep' Im_pos (F0 _)
  have he0 := he.up Rm_pos (Nat.le_refl _) (F0 _)
  have hb0 := (Box2.new w 26 (.slice A sh.length c) (.slice A' es.length c')).alloc (.cells #[.int .i64 0] 29)
  have hr0 := Box.new (w.alloc (.cells #[.slice A sh.length c, .slice A' es.length c'] 26)) 29 (.int .i64 0)
  simp only [World.size_alloc] at hr0
  replace F0 := F0 (fun k => k < w.heap.size)
  obtain ⟨r, hr⟩ : ∃ r, r = mayT sh es := ⟨_, rfl⟩
  rw [← hr]
  have HR := Lib.hid hr
  obtain ⟨f, hf⟩ : ∃ f, f = fitsT sh es.length := ⟨_, rfl⟩
  have HF := Lib.hid hf
  clear hs he hr hf
  refine (callsIn_wide (n := 3)).1 ?_
  refine callsIn_of_wp_marks Tryz.func25 rfl trivial ?_ rfl
  simp only [Tryz.ntmps25, List.size_toArray, List.length_cons, List.length_nil, Nat.reduceAdd, Nat.reduceSub, Array.replicate_succ, Array.replicate_zero, List.push_toArray, List.append_toArray, List.nil_append, List.cons_append]
  gi_wp2_with fail
  refine ⟨trivial, ?_⟩
  refine (callsIn_wide.2 (fits_t _ _ _ _ _ sh hs0 hly)).mono ?_
  rintro e w1 ⟨rfl, hf1⟩
  rw [← HF.out]
  have he1 := he0.keep' Rm_pos hf1
  have hb1 := hb0.keep hf1
  have hr1 := hr0.fr hf1 hr0.lt
  have F1 := fr_then F0 hf1
  have s1 : w.heap.size + 2 ≤ w1.heap.size := by
    have := hf1.size
    simp only [World.size_alloc] at this
    omega
  clear hs0 he0 hb0 hr0 hf1 F0
  by_cases h0 : f = 0
  · subst h0
    have c0 := hb1.c0
    have c1 := hb1.c1
    gi_wp2_with fail
    refine ⟨trivial, ?_⟩
    refine (callsIn_wide.2 (of_t _ _ _ _ _ _ _)).mono ?_
    rintro e w2 ⟨rfl, hf2⟩
    gi_wp2_with fail
    refine ⟨trivial, ?_⟩
    refine (callsIn_wide.2 (all_t _ _ _ _ _ _ _)).mono ?_
    rintro e w3 ⟨rfl, hbx, hf3⟩
    gi_wp2_with fail
    have s2 := hf2.size
    have s3 := hf3.size
    have he2 := (he1.keep' Rm_pos hf2).keep' Rm_pos hf3
    have hr2 := (hr1.fr hf2 hr1.lt).fr hf3 (Nat.lt_of_lt_of_le hr1.lt s2)
    have F2 := fr_then (fr_then F1 hf2) hf3
    obtain ⟨E, hE1, hE2⟩ := Rm_all he2
    have hbl := hbx.lt
    clear he1 hb1 hr1 F1 c0 c1 hf2 hf3 he2
    refine wpIn_rangeFunc_ownH (F := Fence.wide) rfl (by omega) (gf := 108) (lb := #[.pointer (some ⟨w2.heap.size, 0, none⟩)]) rfl trivial (enter_of Tryz.func108 (by decide) rfl)
      (all_stops (fun k => k < w.heap.size ∨ k = w2.heap.size) w3 w2.heap.size es.length A' c' _ E hly hbx (fun j hj => (hE1 j hj).mono fun k hk => ⟨.inl hk, by omega⟩)) frK_t (frK_b (by intro k hk; rcases hk with hk | rfl <;> omega)) (Below.refl _ _) (fun _ => rfl)
      (fun pre W => (∀ i ∈ pre, LikeR (es.getD i zR)) ∧ MayI w.heap.size (w.heap.size + 1) 29 w3 W) (fun cc pre W => cc = .ret ∧ (∃ i ∈ pre, ¬ LikeR (es.getD i zR)) ∧ Box W (w.heap.size + 1) 29 (.int .i64 6) ∧ Fr (fun k => k < w.heap.size) w3 W)
      (ownFrom_fr fun pre W W' h hf => ⟨h.1, h.2.keep hf (fun k hk => by omega)⟩)
      (fun cc => ownFrom_fr fun pre W W' h hf => ⟨h.1, h.2.1, h.2.2.1.fr hf (by omega), h.2.2.2.comp hf fun k _ hk => ⟨hk, by omega⟩⟩)
      ⟨by simp, ⟨_, hr2⟩, Fr.refl _ _⟩
      (VarX w3.heap.size E (fun x p => { tmps := #[.agg #[.slice A sh.length c, .slice A' es.length c'], .pointer (some ⟨w.heap.size, 0, none⟩), .pointer (some ⟨w.heap.size + 1, 0, none⟩), .int .i64 0, undef, p, undef, .agg #[.slice A sh.length c, .slice A' es.length c'], .int .i64 0, .int .i64 0, .bool false, undef, .agg #[.slice A sh.length c, .slice A' es.length c'], .agg #[.slice A sh.length c, .slice A' es.length c'], .func (.func 108) #[] #[.pointer (some ⟨w2.heap.size, 0, none⟩)], .int .i64 x, E x, undef, undef, undef, undef, undef], defers := [] })) (fun x a => VarX.own _ _ _ _ x a) ?assign ?body ?done ?stop
    case assign =>
      intro l pre x W K hI hK
      obtain ⟨P, n, d, Q, m, o, hEx, g1, g2⟩ := hE2 x
      generalize (es.getD x zR).1 = sx at hEx
      have HK := Lib.hid hK
      have HI := Lib.hid hI
      have hsz := hI.2.2.size
      clear hK hI g1 g2
      gi_wp2
      exact HK.out _ _ (keeps_alloc _ _ _) ((Fr.refl _ _).alloc _) ⟨HI.out.1, HI.out.2.keep ((Fr.refl (fun _ => True) _).alloc _) (fun _ _ => trivial)⟩ ⟨W.heap.size, _, P, n, d, Q, m, o, by simp only [hEx], hsz, hEx, Box3.new _ _ _ _ _⟩
    case body =>
      rintro l pre x a' W hl' - ⟨hpre, hM⟩ ⟨b, s, P, n, d, Q, m, o, rfl, hb, hEx, hx3⟩ -
      obtain ⟨P', n', d', Q', m', o', hEx', g1, g2⟩ := (hE2 x).fr hM.2
      have hlen := getD_len hL x
      obtain ⟨y, hy⟩ : ∃ y, y = es.getD x zR := ⟨_, rfl⟩
      rw [← hy] at hEx' g1 g2 hlen
      have HX := Lib.hid hy
      have HP := Lib.hid hpre
      rw [hEx'] at hEx
      injection hEx with hEx
      injection hEx with hEx
      injection hEx with e1 hEx
      injection hEx with e2 hEx
      injection hEx with e3 hEx
      injection e1 with e1
      injection e2 with e4 e5 e6
      injection e3 with e7 e8 e9
      subst e1 e4 e5 e6 e7 e8 e9
      have x0 := hx3.c0
      have x1 := hx3.c1
      have x2 := hx3.c2
      have hM' := hM
      obtain ⟨⟨r0, hbr⟩, hF⟩ := hM'
      by_cases hk : LikeR y
      · have p := may_m W y.1 _ _ y.2.1 y.2.2 L 0 (Lib.hid (if_pos hk)) g1 g2 hlen.1 hlen.2 hL1 hl
        have q := Lib.hid (CallsIn.inRound l (callsIn_wide.2 p : CallsIn Fence.wide 0 _ _ _ _ _))
        have HY := Lib.hid hk
        clear p g1 g2 hlen hk hpre hy hEx'
        generalize y.1 = sy at *
        gi_wp2_with fail
        refine ⟨trivial, ?_⟩
        refine q.out.mono ?_
        rintro e W2 ⟨rfl, hf⟩
        gi_wp2_with fail
        refine ⟨keeps_fr _ hf, hf.mono fun k hk _ => hk, fun i hi => (List.mem_append.1 hi).elim (HP.out i) (fun e => by simp only [List.mem_singleton] at e; subst e; rw [← HX.out]; exact HY.out), hM.keep hf (fun k hk => ?_)⟩
        rcases hk with hk | rfl
        · exact Nat.lt_of_lt_of_le hk (by have := hF.size; omega)
        · exact hbr.lt
      · have p := may_m W y.1 _ _ y.2.1 y.2.2 L 6 (Lib.hid (if_neg hk)) g1 g2 hlen.1 hlen.2 hL1 hl
        have q := Lib.hid (CallsIn.inRound l (callsIn_wide.2 p : CallsIn Fence.wide 0 _ _ _ _ _))
        have HY := Lib.hid hk
        clear p g1 g2 hlen hk hpre hy hEx'
        generalize y.1 = sy at *
        gi_wp2_with fail
        refine ⟨trivial, ?_⟩
        refine q.out.mono ?_
        rintro e W2 ⟨rfl, hf⟩
        have hb2 := hbr.fr hf hbr.lt
        have cr := hb2.cell
        have fr := hb2.free
        gi_wp2_with fail
        exact ⟨(keeps_fr _ hf).trans ((KeepsOthers.setCell _ _ _).from _), rfl, ⟨x, by simp, by rw [← HX.out]; exact HY.out⟩, hb2.set _, (hF.comp hf fun k _ hk => ⟨hk, by have := hF.size; omega⟩).setBox (fun _ h => by omega) _⟩
    case done =>
      rintro D ys W hD rfl ⟨hpre, ⟨r0, hbr⟩, hF⟩ hK
      have HN : r = 0 := HR.out.trans (mayT_0 HF.out.symm fun x hx => by
        obtain ⟨i, hi, rfl⟩ := mem_getD hx
        exact hpre i (List.mem_range.2 hi))
      have cr := hbr.cell
      have fr := hbr.free
      have hbs := hbr.set (.int .i64 0)
      have F3 := (F2.trans hF).setBox (p := w.heap.size + 1) (fun _ h => by omega) (.int .i64 0)
      clear hpre
      gi_wp2
      have hK' := (KeepsOthers.setCell W ⟨w.heap.size + 1, 0, none⟩ (.int .i64 0)).same D _ hK rfl
      have hc5 := cell_kept hbs.cell (grownBy_putObj' _ D (.deferred none)) (fun r e => by cases e; exact ⟨_, hK', rfl⟩)
      exact leaves_mark hK' rfl (v := .int .i64 0) (by simp [results, Tryz.f25, go_sem, hc5]) ⟨congrArg (fun z : Int => Ending.returned (.int .i64 z)) HN.symm, F3.comp (Fr.of_grown (grownBy_putObj' _ D (.deferred none))) fun k hk hk' => ⟨hk', fun e => by cases e; omega⟩⟩ rfl
    case stop =>
      rintro D cc pre W hD hpre ⟨rfl, ⟨i, hi, hno⟩, hbr, hF⟩ hK
      have HN : r = 6 := HR.out.trans (mayT_6 HF.out.symm fun h => hno (h _ (getD_mem (List.mem_range.1 (hpre.subset hi)))))
      have F3 := F2.trans hF
      clear hno
      gi_wp2
      have hc5 := cell_kept hbr.cell (grownBy_putObj' _ D (.deferred none)) (fun r e => by cases e; exact ⟨_, hK, rfl⟩)
      exact leaves_mark hK rfl (v := .int .i64 6) (by simp [results, Tryz.f25, go_sem, hc5]) ⟨congrArg (fun z : Int => Ending.returned (.int .i64 z)) HN.symm, F3.comp (Fr.of_grown (grownBy_putObj' _ D (.deferred none))) fun k hk hk' => ⟨hk', fun e => by cases e; omega⟩⟩ rfl
  · have HN : r = f := HR.out.trans ((mayT_no (by rw [← HF.out]; exact h0)).trans HF.out.symm)
    have cr := hr1.cell
    have fr := hr1.free
    have hbs := hr1.set (.int .i64 f)
    have F2 := F1.setBox (p := w.heap.size + 1) (fun _ h => by omega) (.int .i64 f)
    gi_wp2_with fail
    exact ⟨.int .i64 f, by simp [results, Tryz.f25, go_sem, hbs.cell], congrArg (fun z : Int => Ending.returned (.int .i64 z)) HN.symm, F2⟩
end Go.Proofs.YtlppcfeimpcbjaaGreat


/- fluxionref07.Own. -/
namespace Go.Proofs.YtlppcfeimpcbjaaGreat
open Go.RowKit

section
variable {P : Program} {α : Type} {K : Kd α} {t e : TypeId} {bytes : Nat} (E : ElemT P K t e bytes) {o : Oper} {a : Act} {Q : Exit → Act → World → Prop}
include E
/-- append, as one operation. -/
theorem oper_push {s x : Operand} (ho : o.op = .call { callee := .builtin .append, args := #[s, x], argTypes := #[t, t] }) {w : World}
    {S T : Nat → Prop} {v xv : Value} {xs ys : List α} (hs : a.eval s = v) (hx : a.eval x = xv) (h : Own K e S w v xs) (hy : Sl K T w xv ys) (hE : ∀ y cs, K.rd T w y cs → K.rd (fun k => S k ∧ some k ≠ v.ownBlock) w y cs)
    (hnew : ∀ k, w.heap.size ≤ k → S k) (hl : (xs.length + ys.length) * bytes ≤ 140737488355328) (hm : xs.length + ys.length ≤ 9223372036854775807) {K' : Act → World → Prop}
    (next : ∀ v' w', Own K e S w' v' (xs ++ ys) → Fr (fun k => some k ≠ v.ownBlock) w w' → (v'.ownBlock = v.ownBlock ∨ ∃ b, v'.ownBlock = some b ∧ w.heap.size ≤ b) → K' (a.put o.dst v') w') :
    o.wp P a w K' Q := by
  obtain ⟨i, z, hi, hz, hsize, hby, hzs⟩ := E.info
  obtain ⟨v', w', hrun, h1, h2, h3⟩ := run_push (P := P) K E.pos t o.type e i z bytes E.under hi hz hsize hby hzs h hy hE hnew hl hm
  unfold Oper.wp
  simp [execOp, ho, resolve, invoke, builtin, hs, hx, hrun, Result.andThen]
  exact next v' w' h1 (Fr.of_grown h2) h3
/-- append of one element. -/
theorem oper_push1 {s x : Operand} (ho : o.op = .call { callee := .builtin .append, args := #[s, x], argTypes := #[t, t] }) {w : World}
    {S T : Nat → Prop} {v : Value} {xs : List α} {y : α} {cs : List Value} (hs : a.eval s = v) (hx : a.eval x = .slice (some ⟨w.heap.size, 0, none⟩) 1 1) (h : Own K e S w v xs) (hy : K.rd T w y cs)
    (hT : ∀ k, T k → k < w.heap.size → S k ∧ some k ≠ v.ownBlock)
    (hnew : ∀ k, w.heap.size ≤ k → S k) (hl : (xs.length + 1) * bytes ≤ 140737488355328) (hm : xs.length + 1 ≤ 9223372036854775807) {K' : Act → World → Prop}
    (next : ∀ v' w', Own K e S w' v' (xs ++ [y]) → Fr (fun k => some k ≠ v.ownBlock) w w' → (v'.ownBlock = v.ownBlock ∨ ∃ b, v'.ownBlock = some b ∧ w.heap.size ≤ b) → K' (a.put o.dst v') w') :
    o.wp P a (w.alloc (.cells cs.toArray e)) K' Q := by
  have hlt := h.lt
  have hf : ∀ S, Fr S w (w.alloc (.cells cs.toArray e)) := fun S => (Fr.refl S w).alloc _
  have hy' : K.rd (fun k => T k ∧ k < w.heap.size) (w.alloc (.cells cs.toArray e)) y cs := K.fr (K.bd hy) (hf _)
  have hsl : Sl K (fun k => (T k ∧ k < w.heap.size) ∨ k = w.heap.size) (w.alloc (.cells cs.toArray e)) (.slice (some ⟨w.heap.size, 0, none⟩) 1 1) [y] :=
    ⟨_, 1, rfl, Nat.le_refl _, by omega, fun h => by simp at h, fun _ => ⟨_, rfl, .inr rfl, fun i x hx => by
      cases i with
      | succ i => simp at hx
      | zero =>
        simp at hx; subst hx
        refine ⟨cs, K.mono (fun k hk => .inl hk) hy', fun j u hj => ?_⟩
        rw [addr_lit, World.cell?_alloc_at _ _ _ _ rfl]
        simpa using hj⟩⟩
  refine oper_push E ho hs hx (h.fr (hf _)) hsl ?_ (fun k hk => hnew k (by simp at hk; omega)) (by simpa using hl) (by simpa using hm) ?_
  · intro y' cs' hr
    refine K.mono (fun k hk => ?_) hr
    rcases hk with hk | rfl
    · exact hT k hk.1 hk.2
    · exact ⟨hnew _ (Nat.le_refl _), fun e => by have := hlt _ e.symm; omega⟩
  · intro v' w' h1 h2 h3
    refine next v' w' h1 ((hf _).trans h2) ?_
    rcases h3 with q | ⟨b, q, hb⟩
    · exact .inl q
    · exact .inr ⟨b, q, by simp at hb; omega⟩
end

theorem Rm_get {S : Nat → Prop} {w : World} {es : List RatL} {A : Option Addr} {c : Nat} (h : Sl Rm S w (.slice A es.length c) es) {i : Nat} (hi : i < es.length) : ∃ ad P n d Q m o, A = some ad ∧ S ad.block ∧ w.cell? (ad.add (i * 3)) = some (.bool es[i].1) ∧ w.cell? ⟨(ad.add (i * 3)).block, (ad.add (i * 3)).off + 1, none⟩ = some (.slice P n d) ∧ w.cell? ⟨(ad.add (i * 3)).block, (ad.add (i * 3)).off + 2, none⟩ = some (.slice Q m o) ∧ Sl Lm S w (.slice P n d) es[i].2.1 ∧ Sl Lm S w (.slice Q m o) es[i].2.2 := by
  obtain ⟨A', c', he, h1, h2, h3, h4⟩ := h
  cases he
  obtain ⟨ad, rfl, hS, hc⟩ := h4 (by omega)
  obtain ⟨cs, ⟨vn, vd, rfl, hn, hd⟩, hu⟩ := hc i es[i] (by simp [hi])
  obtain ⟨P, n, c, rfl⟩ := hn.form
  obtain ⟨Q, m, k, rfl⟩ := hd.form
  exact ⟨ad, P, n, c, Q, m, k, rfl, hS, hu 0 _ rfl, (congrArg w.cell? (addr_next ad (i * 3) 0)).trans (hu 1 _ rfl), (congrArg w.cell? (addr_next ad (i * 3) 1)).trans (hu 2 _ rfl), hn, hd⟩
theorem Own.past {α : Type} {K : Kd α} {e : TypeId} {S R : Nat → Prop} {w w' : World} {v : Value} {xs : List α} (h : Own K e S w v xs) (hf : Fr R w w') (hs : ∀ k, S k → R k) : Own K e S w' v xs := h.fr (hf.mono fun k _ hk => hs k hk)
theorem fr_set1 (w : World) (b j : Nat) (x : Value) : Fr (fun k => k ≠ b) w (w.setCell ⟨b, j, none⟩ x) := (Fr.refl _ _).setCell (p := ⟨b, j, none⟩) (fun _ h => h rfl) _
theorem Box2.set1 {w : World} {b : Nat} {t : TypeId} {x y : Value} (h : Box2 w b t x y) (u : Value) : Box2 (w.setCell ⟨b, 1, none⟩ u) b t x u := h.set 1 u

end Go.Proofs.YtlppcfeimpcbjaaGreat


/- fluxionref07.May. -/
namespace Go.Proofs.YtlppcfeimpcbjaaGreat
open Go.RowKit

set_option maxHeartbeats 4000000 in
theorem rmayT_t {S T : Nat → Prop} (w : World) (vs ve : Value) (sh : List Int) (es : List RatL) (L : Nat) (hs : Sl Im S w vs sh) (he : Sl Rm T w ve es) (hL : ∀ x ∈ es, x.2.1.length ≤ L ∧ x.2.2.length ≤ L) (hL1 : 1 ≤ L) (hl : L ≤ 104857600) :
    Calls Tryz.prog 15 #[.agg #[vs, ve]] w fun e w' => e = .returned (.int .i64 (mayT sh es)) ∧ Fr (fun k => k < w.heap.size) w w' := by
  obtain ⟨A, c, rfl, _, _, _⟩ := hs.slice
  obtain ⟨A', c', rfl, _, _, hly⟩ := he.slice
  have F0 := fun R => ((Fr.refl R w).alloc (.cells #[.slice A sh.length c, .slice A' es.length c'] 26))
  have hs0 := hs.up Im_pos (Nat.le_refl _) (F0 _)
  have he0 := he.up Rm_pos (Nat.le_refl _) (F0 _)
  have hb0 := Box2.new w 26 (.slice A sh.length c) (.slice A' es.length c')
  replace F0 := F0 (fun k => k < w.heap.size)
  generalize hW : w.alloc (.cells #[.slice A sh.length c, .slice A' es.length c'] 26) = W at F0 hs0 he0 hb0
  obtain ⟨r, hr⟩ : ∃ r, r = mayT sh es := ⟨_, rfl⟩
  rw [← hr]
  obtain ⟨f, hf⟩ : ∃ f, f = mayS sh := ⟨_, rfl⟩
  obtain ⟨z, hz⟩ : ∃ z, z = cntS sh := ⟨_, rfl⟩
  have p1 := smay_calls W _ sh hs0
  have hD := fun R => (Fr.refl R W).drew
  have p2 := scount_calls W.drew _ sh (hs0.keep' Im_pos (hD _))
  rw [← hf] at p1
  rw [← hz] at p2
  have HR := Lib.hid hr
  have HF := Lib.hid hf
  have HZ := Lib.hid hz
  have HE := Lib.hid (he0.fr (hD _))
  have HL := Lib.hid hL
  have c0 := hb0.c0
  have c1 := hb0.c1
  have b1 := hb0.fr (hD (fun _ => True)) trivial
  have F1 := F0.drew
  clear hs he hr hf hz hs0 he0 hL hb0 hD
  go_enter Tryz.func15, Tryz.ntmps15
  by_cases h0 : f = 0
  · subst h0
    by_cases h1 : (es.length : Int) = z
    · have hli : ((es.length : Int) == z) = true := by rw [beq_iff_eq]; exact h1
      have HFT := Lib.hid (fitsT_0 HF.out.symm (h1.trans HZ.out))
      clear h1
      go_wp2_with fail
      refine p1.mono ?_
      rintro e w1 ⟨rfl, rfl⟩
      go_wp2_with fail
      go_region_with (first | (with_reducible refine p2.mono ?_; rintro e w1 ⟨rfl, rfl⟩))
      all_goals
        clear p1 p2 c0 c1 F0
        go_wp2_with fail
        go_loopw [4] (fun i wr => ∃ (j : Nat), i = .int .i64 j ∧ j ≤ es.length ∧ Hid (∀ i, i < j → LikeR (es.getD i zR)) ∧ Box2 wr w.heap.size 26 (.slice A sh.length c) (.slice A' es.length c') ∧ Hid (Sl Rm (fun k => k < w.heap.size) wr (.slice A' es.length c') es) ∧ Fr (fun k => k < w.heap.size) w wr) (fun i _ => es.length - (intOf i).toNat)
        case atStart => exact ⟨0, rfl, by omega, Lib.hid (fun i hi => by omega), b1, HE, F1⟩
        case round =>
          clear b1 HE F1
          obtain ⟨j, rfl, hj, HJ, b1, HE, F⟩ := hrel
          have c0 := b1.c0
          have c1 := b1.c1
          by_cases hlt : j < es.length
          · obtain ⟨ad, P, n, d, Q, m, o, rfl, hS, g0, g1, g2, r1, r2⟩ := Rm_get HE.out hlt
            have hlen := HL.out _ (List.getElem_mem hlt)
            have hgd : es.getD j zR = es[j] := by rw [List.getD_eq_getElem?_getD, List.getElem?_eq_getElem hlt]; rfl
            have hmem := List.getElem_mem hlt
            generalize es[j] = y at g0 r1 r2 hlen hgd hmem
            have HG := Lib.hid hgd
            clear hgd
            by_cases hk : LikeR y
            · have p := rmay_m wr y.1 _ _ y.2.1 y.2.2 L 0 (Lib.hid (if_pos hk)) r1 r2 hlen.1 hlen.2 hL1 hl
              have HJ' : Hid (∀ i, i < j + 1 → LikeR (es.getD i zR)) := Lib.hid (fun i hi => by
                rcases Nat.lt_succ_iff_lt_or_eq.1 hi with h | rfl
                · exact HJ.out i h
                · rw [HG.out]; exact hk)
              generalize y.1 = sy at g0 p
              clear r1 r2 hlen hk hmem
              go_wp2_with fail
              refine p.mono ?_
              rintro e w2 ⟨rfl, hf⟩
              go_wp2_with fail
              go_roundw
              case rel => exact ⟨j + 1, by go_num, by omega, HJ', b1.keep hf, Lib.hid (HE.out.keep' Rm_pos hf), fr_then F hf⟩
              case measure => first | (simp [intOf]; done) | (simp [intOf]; omega)
            · have p := rmay_m wr y.1 _ _ y.2.1 y.2.2 L 6 (Lib.hid (if_neg hk)) r1 r2 hlen.1 hlen.2 hL1 hl
              have HN : r = 6 := HR.out.trans (mayT_6 HFT.out fun h => hk (h _ hmem))
              generalize y.1 = sy at g0 p
              clear r1 r2 hlen hk hmem
              go_wp2_with fail
              refine p.mono ?_
              rintro e w2 ⟨rfl, hf⟩
              go_wp2_with fail
              go_ret
              exact ⟨by first | rfl | exact congrArg (fun z : Int => Ending.returned (.int .i64 z)) HN.symm, fr_then F hf⟩
          · obtain rfl : j = es.length := by omega
            have HN : r = 0 := HR.out.trans (mayT_0 HFT.out fun x hx => by
              obtain ⟨i, hi, rfl⟩ := mem_getD hx
              exact HJ.out i hi)
            go_wp2_with fail
            go_ret
            exact ⟨by first | rfl | exact congrArg (fun z : Int => Ending.returned (.int .i64 z)) HN.symm, F⟩
    · have hli : ((es.length : Int) == z) = false := by rw [beq_eq_false_iff_ne]; exact h1
      have HN : r = 13 := by
        have := fitsT_13 HF.out.symm (fun h => h1 (h.trans HZ.out.symm))
        exact HR.out.trans ((mayT_no (by rw [this]; decide)).trans this)
      clear h1
      go_wp2_with fail
      refine p1.mono ?_
      rintro e w1 ⟨rfl, rfl⟩
      go_wp2_with fail
      go_region_with (first | (with_reducible refine p2.mono ?_; rintro e w1 ⟨rfl, rfl⟩))
      all_goals
        go_wp2_with fail
        go_ret
        exact ⟨by first | rfl | exact congrArg (fun z : Int => Ending.returned (.int .i64 z)) HN.symm, F1⟩
  · have HN : r = f := by
      have := fitsT_no (n := es.length) (by rw [← HF.out]; exact h0)
      exact HR.out.trans ((mayT_no (by rw [this, ← HF.out]; exact h0)).trans (this.trans HF.out.symm))
    go_wp2_with fail
    refine p1.mono ?_
    rintro e w1 ⟨rfl, rfl⟩
    go_wp2_with fail
    go_ret
    exact ⟨by first | rfl | exact congrArg (fun z : Int => Ending.returned (.int .i64 z)) HN.symm, F0⟩
end Go.Proofs.YtlppcfeimpcbjaaGreat


/- fluxionref01.Limbs, fluxionref03.Back: the document's numbers as the program has them. -/
namespace Go.Proofs.YtlppcfeimpcbjaaGreat
open Go.RowKit

theorem short_w {S : Nat → Prop} (w : World) (va : Value) (N L : Nat) (ha : RC S w va N L) (hl : L ≤ 1099511627000) :
    Calls Tryz.prog 112 #[va, .int .i64 65536] w fun e w' => ∃ v, e = .returned (.tuple #[v, .int .i64 ((N % 65536 : Nat) : Int)]) ∧ RC (fun k => w.heap.size ≤ k) w' v (N / 65536) L ∧ Fr (fun k => k < w.heap.size) w w' :=
  short_r w va N L 65536 ha hl (by decide) (by decide)
theorem half_lt {M : Nat} : M % 65536 < 65536 := Nat.mod_lt _ (by decide)
theorem limb_of (M : Nat) : M % LB = M / 65536 % 65536 * 65536 + M % 65536 := by unfold LB; omega
theorem limb_rest (M : Nat) : M / 65536 / 65536 = M / LB := by rw [Nat.div_div_eq_div_mul]; rfl

set_option maxHeartbeats 4000000 in
theorem rlimbs_r {S : Nat → Prop} (w : World) (va : Value) (N L : Nat) (ha : RC S w va N L) (hl : L ≤ 1099511627000) (hN : (dg LB N).length ≤ 1099511627000) :
    Calls Tryz.prog 75 #[va] w fun e w' => ∃ v, e = .returned v ∧ Own Lm 150 (fun k => w.heap.size ≤ k) w' v (dg LB N) ∧ Fr (fun k => k < w.heap.size) w w' := by
  obtain ⟨A, n, c, rfl⟩ := ha.form
  have HN := Lib.hid hN
  go_enter Tryz.func75, Tryz.ntmps75
  go_wp2_with fail
  go_loopg [0, 3] N (fun M a v wr => ∃ (ls : List Nat) (T : Nat → Prop), RC T wr a M L ∧ Own Lm 150 (fun k => w.heap.size ≤ k) wr v ls ∧ Hid (ls ++ dg LB M = dg LB N) ∧ Fr (fun k => k < w.heap.size) w wr)
  case atStart => exact ⟨[], _, ha, Own.nil _ _ _ _, Lib.hid rfl, Fr.refl _ _⟩
  case round =>
    obtain ⟨ls, T, hM, ho, hls, F⟩ := hrel
    obtain ⟨A1, c1, rfl, _, _, _⟩ := hM.sl.slice
    obtain ⟨A2, n2, c2, rfl⟩ := ho.form
    rcases Nat.eq_zero_or_pos gk with h0 | hpos
    · subst h0
      have e : (dg DB 0).length = 0 := by rw [dg_zero]; rfl
      rw [e]
      have h := hls.out
      rw [dg_zero, List.append_nil] at h
      subst h
      go_wp2_with fail
      go_ret
      exact ⟨_, rfl, ho, F⟩
    · have hlen : 0 < (dg DB gk).length := (dg_len_pos DB2).2 hpos
      have hq := Nat.div_lt_self (n := gk) (k := LB) hpos (by decide)
      have hdg := dg_pos LB2 hpos
      have hll := congrArg List.length hls.out
      rw [hdg, List.length_append, List.length_cons] at hll
      have HLn := Lib.hid (show (ls.length + 1) * 4 ≤ 140737488355328 ∧ ls.length + 1 ≤ 9223372036854775807 by have := HN.out; omega)
      generalize hz0 : (dg DB gk).length = zl at hM hlen
      obtain ⟨x, hx⟩ : ∃ x, x = gk % 65536 := ⟨_, rfl⟩
      obtain ⟨y, hy⟩ : ∃ y, y = gk / 65536 % 65536 := ⟨_, rfl⟩
      obtain ⟨z, hz⟩ : ∃ z, z = gk % LB := ⟨_, rfl⟩
      have hx1 : x < 65536 := by rw [hx]; exact Nat.mod_lt _ (by decide)
      have hy1 : y < 65536 := by rw [hy]; exact Nat.mod_lt _ (by decide)
      have hzz : z = y * 65536 + x := by rw [hz, hy, hx]; exact limb_of gk
      have hzl : z < LB := by rw [hz]; exact Nat.mod_lt _ (by decide)
      have hw1 : IntKind.u32.wrap (y : Int) = (y : Int) := by rw [IntKind.wrap_u32]; omega
      have hw2 : IntKind.u32.wrap ((y : Int) * 65536) = (y : Int) * 65536 := by rw [IntKind.wrap_u32]; omega
      have hw3 : IntKind.u32.wrap ((y : Int) * 65536 + (x : Int)) = (z : Int) := by rw [IntKind.wrap_u32]; omega
      have hw4 : IntKind.u32.wrap (x : Int) = (x : Int) := by rw [IntKind.wrap_u32]; omega
      have p1 := short_w wr (.slice A1 zl c1) gk L hM hl
      rw [← hx] at p1
      have HZ := Lib.hid (And.intro hz hzl)
      have HQ := Lib.hid (And.intro hq hdg)
      have HY := Lib.hid hy
      clear hx hy hz hzz hzl hq hdg hll hpos hM
      go_wp2_with fail
      refine p1.mono ?_
      rintro e w1 ⟨v1, rfl, h1, hf1⟩
      obtain ⟨B1, m1, k1, rfl⟩ := h1.form
      have p2 := short_w w1 (.slice B1 m1 k1) _ L h1 hl
      rw [← HY.out] at p2
      go_wp2_with fail
      refine p2.mono ?_
      rintro e w2 ⟨v2, rfl, h2, hf2⟩
      obtain ⟨B2, m2, k2, rfl⟩ := h2.form
      rw [limb_rest] at h2
      have o2 := (ho.keep' hf1).keep' hf2
      have F2 := fr_then (fr_then F hf1) hf2
      have sz := F2.size
      have h2' := Lib.hid h2
      have lt := ho.lt
      have sz1 := hf1.size
      have hrd : Lm.rd (fun _ => False) w2 z [.int .u32 (z : Int)] := ⟨rfl, HZ.out.2⟩
      have HR := Lib.hid hrd
      clear p1 p2 h1 ho hf1 hf2 F h2 hrd
      go_wp2_with (at_builtin; refine wpList_push1 (v := .slice A2 n2 c2) lmT rfl rfl rfl rfl o2 HR.out (fun _ h => h.elim) (fun k hk => by omega) HLn.out.1 HLn.out.2 ?_; intro v' w3 ho3 hfr3 hat)
      go_roundg (gk / LB)
      case measure => exact HQ.out.1
      case rel => exact ⟨ls ++ [z], _, ⟨(h2'.out.sl.fr (hfr3.mono fun k _ hk e => by have := lt _ e.symm; omega)), h2'.out.len⟩, ho3, Lib.hid (by rw [List.append_assoc, ← hls.out, HQ.out.2, ← HZ.out.1]; rfl), F2.comp hfr3 fun k hk hk' => ⟨hk', fun e => by have := o2.in_ _ e.symm; omega⟩⟩

set_option maxHeartbeats 4000000 in
theorem rback_r {S : Nat → Prop} (w : World) (s : Bool) (vn vd : Value) (q : Rat) (L : Nat) (h : RR S w vn vd q L) (hs : s = sg q) (hl : L ≤ 1099511627000) (h1 : (dg LB q.num.natAbs).length ≤ 1099511627000) (h2 : (dg LB q.den).length ≤ 1099511627000) :
    Calls Tryz.prog 28 #[.agg #[.bool s, vn, vd]] w fun e w' => ∃ v1 v2, e = .returned (.agg #[.bool (sg q), v1, v2]) ∧ OL (fun k => w.heap.size ≤ k) w' v1 v2 (dg LB q.num.natAbs) (dg LB q.den) ∧ Fr (fun k => k < w.heap.size) w w' := by
  subst hs
  obtain ⟨⟨A1, n1, c1, rfl⟩, ⟨A2, n2, c2, rfl⟩⟩ := h.form
  generalize sg q = s
  have F := ((Fr.refl (fun k => k < w.heap.size) w).alloc (.cells #[.bool s, .slice A1 n1 c1, .slice A2 n2 c2] 58)).alloc (.cells #[.bool false, .slice none 0 0, .slice none 0 0] 54)
  have hb := box_nz (w.alloc (.cells #[.bool s, .slice A1 n1 c1, .slice A2 n2 c2] 58))
  have x1 := (Box3.new w 58 (.bool s) (.slice A1 n1 c1) (.slice A2 n2 c2)).alloc (.cells #[.bool false, .slice none 0 0, .slice none 0 0] 54)
  simp only [World.size_alloc] at hb
  have h0 := h.keep F
  generalize hW0 : (w.alloc (.cells #[.bool s, .slice A1 n1 c1, .slice A2 n2 c2] 58)).alloc (.cells #[.bool false, .slice none 0 0, .slice none 0 0] 54) = W0 at F hb x1 h0
  have dr : ∀ R, Fr R W0 W0.drew := fun R => (Fr.refl R W0).drew
  replace h0 := h0.keep (dr _)
  replace x1 := x1.keep (dr _)
  replace hb := hb.keep (dr _)
  replace F := F.drew
  have s0 := hb.lt
  have S0 : W0.drew.cell? ⟨w.heap.size, 0, none⟩ = some (.bool s) ∧ W0.drew.cell? ⟨w.heap.size, 1, none⟩ = some (.slice A1 n1 c1) ∧ W0.drew.cell? ⟨w.heap.size, 2, none⟩ = some (.slice A2 n2 c2) := ⟨x1.c0, x1.c1, x1.c2⟩
  clear h dr
  go_enter Tryz.func28, Tryz.ntmps28
  go_wp2_with fail
  clear hW0
  go_region_held3 (fun u => u.cell? ⟨w.heap.size, 0, none⟩ = some (.bool s) ∧ u.cell? ⟨w.heap.size, 1, none⟩ = some (.slice A1 n1 c1) ∧ u.cell? ⟨w.heap.size, 2, none⟩ = some (.slice A2 n2 c2)) (first | exact S0 | exact S1 | exact S2 | exact S3) (first
    | ((with_reducible refine (rlimbs_r _ (.slice A1 n1 c1) q.num.natAbs L h0.num hl h1).mono ?_); rintro e w1 ⟨v1, rfl, g1, hf1⟩; obtain ⟨B1, m1, k1, rfl⟩ := g1.form; have y1 := x1.keep hf1; have S1 := And.intro y1.c0 (And.intro y1.c1 y1.c2))
    | ((with_reducible refine (rlimbs_r _ (.slice A2 n2 c2) q.den L (h0.den.keep hf1) hl h2).mono ?_); rintro e w2 ⟨v1, rfl, g2, hf2⟩; obtain ⟨B2, m2, k2, rfl⟩ := g2.form; have y2 := y1.keep hf2; have S2 := And.intro y2.c0 (And.intro y2.c1 y2.c2); have hb2 := (hb.keep hf1).keep hf2; have F4 := fr_set3 w2 (w.heap.size + 1) (.bool s) (.slice B1 m1 k1) (.slice B2 m2 k2); have q1 := y2.fr F4 (by omega); have S3 := And.intro q1.c0 (And.intro q1.c1 q1.c2); have d0 := hb2.c0; have d1 := hb2.c1; have d2 := hb2.c2; have f0 := hb2.free 0; have f1 := hb2.free 1; have f2 := hb2.free 2))
  have B4 := hb2.set3 (.bool s) (.slice B1 m1 k1) (.slice B2 m2 k2)
  have s1 := hf1.size
  have F3 := fr_then (fr_then F hf1) hf2
  have e1 := ((g1.keep' hf2).mono (T := fun k => w.heap.size + 2 ≤ k) fun k hk => by omega).fr (F4.mono fun k _ hk => by omega)
  have e2 := (g2.mono (T := fun k => w.heap.size + 2 ≤ k) fun k hk => by omega).fr (F4.mono fun k _ hk => by omega)
  go_wp2_with fail
  refine bodyPost_ret (results_cell3 rfl rfl B4 Tryz.underlying54 rat3) rfl ?_
  exact ⟨_, _, rfl, ⟨e1.mono fun k hk => by omega, e2.mono fun k hk => by omega⟩, F3.comp F4 fun k hk h => ⟨h, by omega⟩⟩
end Go.Proofs.YtlppcfeimpcbjaaGreat

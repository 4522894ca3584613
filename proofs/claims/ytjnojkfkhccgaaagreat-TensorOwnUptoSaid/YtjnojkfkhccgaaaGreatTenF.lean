import Derived.Test.YtjnojkfkhccgaaaGreatTenE

/- tensor.May. -/
namespace Go.Proofs.YtjnojkfkhccgaaaGreat
open Go.RowKit Go.Shelf
attribute [local go_sem] Oper.semAt_some

/-- A rational's number. -/
def qOf (x : RatL) : Rat := rv x.1 (val x.2.1) (val x.2.2)
/-- May it be? -/
def LikeR (x : RatL) : Prop := Like x.1 x.2.1 x.2.2 (qOf x)
instance (x : RatL) : Decidable (LikeR x) := by unfold LikeR; exact inferInstance
def zR : RatL := (false, [], [])
/-- Why a tensor may not be. -/
def mayT (sh : List Int) (es : List RatL) : Int := if fitsT sh es.length ≠ 0 then fitsT sh es.length else if ∀ x ∈ es, LikeR x then 0 else 6
theorem mayT_no {sh : List Int} {es : List RatL} (h : fitsT sh es.length ≠ 0) : mayT sh es = fitsT sh es.length := if_pos h
theorem mayT_0 {sh : List Int} {es : List RatL} (h : fitsT sh es.length = 0) (h1 : ∀ x ∈ es, LikeR x) : mayT sh es = 0 := by
  unfold mayT
  rw [if_neg (by simpa using h), if_pos h1]
theorem mayT_6 {sh : List Int} {es : List RatL} (h : fitsT sh es.length = 0) (h1 : ¬ ∀ x ∈ es, LikeR x) : mayT sh es = 6 := by
  unfold mayT
  rw [if_neg (by simpa using h), if_neg h1]
theorem mayT_ok {sh : List Int} {es : List RatL} (h : mayT sh es = 0) : mayS sh = 0 ∧ (es.length : Int) = cntS sh ∧ ∀ x ∈ es, LikeR x := by
  unfold mayT at h
  split at h
  · rename_i h1; exact absurd h h1
  · rename_i h1
    split at h
    · rename_i h2
      have h3 : fitsT sh es.length = 0 := by simpa using h1
      unfold fitsT at h3
      split at h3
      · rename_i h4; exact absurd h3 h4
      · rename_i h4
        split at h3
        · omega
        · rename_i h5; exact ⟨by simpa using h4, by simpa using h5, h2⟩
    · omega

/-- The elements, and what a place behind them is given as. -/
theorem Rm_all {S : Nat → Prop} {w : World} {es : List RatL} {A : Option Addr} {c : Nat} (h : Sl Rm S w (.slice A es.length c) es) : ∃ E : Nat → Value, (∀ i, i < es.length → Elem S w A i (E i)) ∧ ∀ i, RatV S w (E i) (es.getD i zR) := by
  obtain ⟨E, hE⟩ := Rm_fun h
  refine ⟨fun i => if i < es.length then E i else .agg #[.bool false, .slice none 0 0, .slice none 0 0], fun i hi => ?_, fun i => ?_⟩
  · simp only [hi, if_true]
    exact (hE i hi).1
  · by_cases hi : i < es.length
    · simp only [hi, if_true, List.getD_eq_getElem?_getD, List.getElem?_eq_getElem hi, Option.getD_some]
      exact (hE i hi).2
    · simp only [hi, if_false, List.getD_eq_getElem?_getD, List.getElem?_eq_none (Nat.le_of_not_lt hi), Option.getD_none]
      exact ⟨none, 0, 0, none, 0, 0, rfl, Sl.nil _ _ _, Sl.nil _ _ _⟩
theorem getD_len {es : List RatL} {L : Nat} (h : ∀ x ∈ es, x.2.1.length ≤ L ∧ x.2.2.length ≤ L) (i : Nat) : (es.getD i zR).2.1.length ≤ L ∧ (es.getD i zR).2.2.length ≤ L := by
  rw [List.getD_eq_getElem?_getD]
  cases hi : es[i]? with
  | none => exact ⟨Nat.zero_le _, Nat.zero_le _⟩
  | some x => exact h x (List.mem_of_getElem? hi)
theorem getD_mem {es : List RatL} {i : Nat} (hi : i < es.length) : es.getD i zR ∈ es := by
  rw [List.getD_eq_getElem?_getD, List.getElem?_eq_getElem hi]
  exact List.getElem_mem hi
theorem mem_getD {es : List RatL} {x : RatL} (h : x ∈ es) : ∃ i, i < es.length ∧ es.getD i zR = x := by
  obtain ⟨i, hi, rfl⟩ := List.mem_iff_getElem.1 h
  exact ⟨i, hi, by rw [List.getD_eq_getElem?_getD, List.getElem?_eq_getElem hi]; rfl⟩

/-- A block of cells lies as it lay, where none but others are turned. -/
theorem grown_cells {B : Nat} {W W' : World} {row : Option Nat} (hg : W.grownBy W' row) (hr : ∀ r, row = some r → B ≤ r ∧ ∃ o : Obj, W.heap[r]? = some o ∧ o.isCells = false) {b : Nat} {cs : Array Value} {t : TypeId} {f : Nat × Nat} (h : W.heap[b]? = some (.cells cs t f)) : W'.heap[b]? = some (.cells cs t f) := by
  refine (hg.block b (Array.getElem?_eq_some_iff.1 h).1 fun e => ?_).trans h
  obtain ⟨_, o, ho, hc⟩ := hr b e.symm
  rw [h] at ho
  cases ho
  cases hc
theorem keeps_alloc (B : Nat) (W : World) (o : Obj) : KeepsFrom B W (W.alloc o) := KeepsFrom.of_grownBy (World.grownBy_alloc W o none) (fun j e => by cases e)
theorem keeps_fr {W W' : World} (B : Nat) (h : Fr (fun k => k < W.heap.size) W W') : KeepsFrom B W W' := (keepsOthers_fr h).from B

/-- A loop's variable of three cells. -/
def VarX (B : Nat) (E : Nat → Value) (T : Nat → Value → Act) (x : Nat) (a : Act) (W : World) : Prop :=
  ∃ b s P n c Q m k, a = T x (.pointer (some ⟨b, 0, none⟩)) ∧ B ≤ b ∧ E x = .agg #[.bool s, .slice P n c, .slice Q m k] ∧ Box3 W b 43 (.bool s) (.slice P n c) (.slice Q m k)
theorem VarX.own (B C : Nat) (E : Nat → Value) (T : Nat → Value → Act) (x : Nat) (a : Act) : OwnFrom C (fun (_ : Unit) W => VarX B E T x a W) := fun _ W W' row hs hg hr => by
  obtain ⟨b, s, P, n, c, Q, m, k, e, hb, hE, hx⟩ := hs
  exact ⟨b, s, P, n, c, Q, m, k, e, hb, hE, grown_cells hg hr hx⟩

/-- What lies in memory while the elements are gone over: the variable in block b, and all below n as it lay. -/
def MayI (n b : Nat) (t : TypeId) (w W : World) : Prop := (∃ r, Box W b t r) ∧ Fr (fun k => k < n) w W
theorem MayI.keep {n b : Nat} {t : TypeId} {w W W' : World} (h : MayI n b t w W) {S : Nat → Prop} (hf : Fr S W W') (hS : ∀ k, k < n ∨ k = b → S k) : MayI n b t w W' := by
  obtain ⟨⟨r, hb⟩, h⟩ := h
  exact ⟨⟨r, hb.fr hf (hS _ (.inr rfl))⟩, h.comp hf fun k _ hk => ⟨hk, hS _ (.inl hk)⟩⟩
/-- A function leaves with the mark of its loop among its deferred calls; its result lies in a cell. -/
theorem leaves_mark {P : Program} {fn : Func} {tmps : Array Value} {R : Ending → World → Prop} {D : Nat} {W : World} {calls : List Deferred} (hK : W.heap[D]? = some (.deferred (some calls))) (hc : calls = []) {v : Value}
    (hr : (results fn tmps).run P (W.putObj D (.deferred none)) = .ok v (W.putObj D (.deferred none))) (h : R (.returned v) (W.putObj D (.deferred none))) {a : Act} (ha : a = { tmps := tmps, defers := [{ target := .collected D, args := #[] }] }) :
    bodyPostM Fence.wide 3 P fn R .ret a W := by
  subst hc ha
  exact ⟨by simp, .inl ⟨_, _, rfl, run_takeDeferred hK, v, hr, h⟩⟩

set_option maxRecDepth 100000 in
set_option maxHeartbeats 4000000 in
theorem may_t {S T : Nat → Prop} (w : World) (vs ve : Value) (sh : List Int) (es : List RatL) (L : Nat) (hs : Sl Im S w vs sh) (he : Sl Rm T w ve es) (hL : ∀ x ∈ es, x.2.1.length ≤ L ∧ x.2.2.length ≤ L) (hL1 : 1 ≤ L) (hl : L ≤ 104857600) :
    Calls Tryz.prog 16 #[.agg #[vs, ve]] w fun e w' => e = .returned (.int .i64 (mayT sh es)) ∧ Fr (fun k => k < w.heap.size) w w' := by
  obtain ⟨A, c, rfl, _, _, hlx⟩ := hs.slice
  obtain ⟨A', c', rfl, _, _, hly⟩ := he.slice
  have F0 := fun R => ((Fr.refl R w).alloc (.cells #[.slice A sh.length c, .slice A' es.length c'] 26)).alloc (.cells #[.int .i64 0] 28)
  have hs0 := hs.keep' Im_pos (F0 _)
  have he0 := he.up Rm_pos (Nat.le_refl _) (F0 _)
  have hb0 := (Box2.new w 26 (.slice A sh.length c) (.slice A' es.length c')).alloc (.cells #[.int .i64 0] 28)
  have hr0 := Box.new (w.alloc (.cells #[.slice A sh.length c, .slice A' es.length c'] 26)) 28 (.int .i64 0)
  simp only [World.size_alloc] at hr0
  replace F0 := F0 (fun k => k < w.heap.size)
  obtain ⟨r, hr⟩ : ∃ r, r = mayT sh es := ⟨_, rfl⟩
  rw [← hr]
  have HR := Lib.hid hr
  obtain ⟨f, hf⟩ : ∃ f, f = fitsT sh es.length := ⟨_, rfl⟩
  have HF := Lib.hid hf
  clear hs he hr hf
  refine (callsIn_wide (n := 3)).1 ?_
  refine callsIn_of_wp_marks Tryz.func16 rfl trivial ?_ rfl
  simp only [Tryz.ntmps16, List.size_toArray, List.length_cons, List.length_nil, Nat.reduceAdd, Nat.reduceSub, Array.replicate_succ, Array.replicate_zero, List.push_toArray, List.append_toArray, List.nil_append, List.cons_append]
  gi_wp2_with fail
  refine ⟨trivial, ?_⟩
  refine (callsIn_wide.2 (fits_t _ _ _ _ _ sh hs0 hly)).mono ?_
  rintro e w1 ⟨rfl, hf1⟩
  rw [← HF.out]
  have he1 := he0.keep' Rm_pos hf1
  have hb1 := hb0.keep hf1
  have hr1 := hr0.fr hf1 hr0.lt
  have F1 := fr_then F0 hf1
  have s1 : w.heap.size + 2 ≤ w1.heap.size := by
    have := hf1.size
    simp only [World.size_alloc] at this
    omega
  clear hs0 he0 hb0 hr0 hf1 F0
  by_cases h0 : f = 0
  · subst h0
    have c0 := hb1.c0
    have c1 := hb1.c1
    gi_wp2_with fail
    refine ⟨trivial, ?_⟩
    refine (callsIn_wide.2 (of_t _ _ _ _ _ _ _)).mono ?_
    rintro e w2 ⟨rfl, hf2⟩
    gi_wp2_with fail
    refine ⟨trivial, ?_⟩
    refine (callsIn_wide.2 (all_t _ _ _ _ _ _ _)).mono ?_
    rintro e w3 ⟨rfl, hbx, hf3⟩
    gi_wp2_with fail
    have s2 := hf2.size
    have s3 := hf3.size
    have he2 := (he1.keep' Rm_pos hf2).keep' Rm_pos hf3
    have hr2 := (hr1.fr hf2 hr1.lt).fr hf3 (Nat.lt_of_lt_of_le hr1.lt s2)
    have F2 := fr_then (fr_then F1 hf2) hf3
    obtain ⟨E, hE1, hE2⟩ := Rm_all he2
    have hbl := hbx.lt
    clear he1 hb1 hr1 F1 c0 c1 hf2 hf3 he2
    refine wpIn_rangeFunc_ownH (F := Fence.wide) rfl (by omega) (gf := 69) (lb := #[.pointer (some ⟨w2.heap.size, 0, none⟩)]) rfl trivial (enter_of Tryz.func69 (by decide) rfl)
      (all_stops (fun k => k < w.heap.size ∨ k = w2.heap.size) w3 w2.heap.size es.length A' c' _ E hly hbx (fun j hj => (hE1 j hj).mono fun k hk => ⟨.inl hk, by omega⟩)) frK_t (frK_b (by intro k hk; rcases hk with hk | rfl <;> omega)) (Below.refl _ _) (fun _ => rfl)
      (fun pre W => (∀ i ∈ pre, LikeR (es.getD i zR)) ∧ MayI w.heap.size (w.heap.size + 1) 28 w3 W) (fun cc pre W => cc = .ret ∧ (∃ i ∈ pre, ¬ LikeR (es.getD i zR)) ∧ Box W (w.heap.size + 1) 28 (.int .i64 6) ∧ Fr (fun k => k < w.heap.size) w3 W)
      (ownFrom_fr fun pre W W' h hf => ⟨h.1, h.2.keep hf (fun k hk => by omega)⟩)
      (fun cc => ownFrom_fr fun pre W W' h hf => ⟨h.1, h.2.1, h.2.2.1.fr hf (by omega), h.2.2.2.comp hf fun k _ hk => ⟨hk, by omega⟩⟩)
      ⟨by simp, ⟨_, hr2⟩, Fr.refl _ _⟩
      (VarX w3.heap.size E (fun x p => { tmps := #[.agg #[.slice A sh.length c, .slice A' es.length c'], .pointer (some ⟨w.heap.size, 0, none⟩), .pointer (some ⟨w.heap.size + 1, 0, none⟩), .int .i64 0, undef, p, undef, .agg #[.slice A sh.length c, .slice A' es.length c'], .int .i64 0, .int .i64 0, .bool false, undef, .agg #[.slice A sh.length c, .slice A' es.length c'], .agg #[.slice A sh.length c, .slice A' es.length c'], .func (.func 69) #[] #[.pointer (some ⟨w2.heap.size, 0, none⟩)], .int .i64 x, E x, undef, undef, undef, undef, undef], defers := [] })) (fun x a => VarX.own _ _ _ _ x a) ?assign ?body ?done ?stop
    case assign =>
      intro l pre x W K hI hK
      obtain ⟨P, n, d, Q, m, o, hEx, g1, g2⟩ := hE2 x
      generalize (es.getD x zR).1 = sx at hEx
      have HK := Lib.hid hK
      have HI := Lib.hid hI
      have hsz := hI.2.2.size
      clear hK hI g1 g2
      gi_wp2
      exact HK.out _ _ (keeps_alloc _ _ _) ((Fr.refl _ _).alloc _) ⟨HI.out.1, HI.out.2.keep ((Fr.refl (fun _ => True) _).alloc _) (fun _ _ => trivial)⟩ ⟨W.heap.size, _, P, n, d, Q, m, o, by simp only [hEx], hsz, hEx, Box3.new _ _ _ _ _⟩
    case body =>
      rintro l pre x a' W hl' - ⟨hpre, hM⟩ ⟨b, s, P, n, d, Q, m, o, rfl, hb, hEx, hx3⟩ -
      obtain ⟨P', n', d', Q', m', o', hEx', g1, g2⟩ := (hE2 x).fr hM.2
      have hlen := getD_len hL x
      obtain ⟨y, hy⟩ : ∃ y, y = es.getD x zR := ⟨_, rfl⟩
      rw [← hy] at hEx' g1 g2 hlen
      have HX := Lib.hid hy
      have HP := Lib.hid hpre
      rw [hEx'] at hEx
      injection hEx with hEx
      injection hEx with hEx
      injection hEx with e1 hEx
      injection hEx with e2 hEx
      injection hEx with e3 hEx
      injection e1 with e1
      injection e2 with e4 e5 e6
      injection e3 with e7 e8 e9
      subst e1 e4 e5 e6 e7 e8 e9
      have x0 := hx3.c0
      have x1 := hx3.c1
      have x2 := hx3.c2
      have hM' := hM
      obtain ⟨⟨r0, hbr⟩, hF⟩ := hM'
      by_cases hk : LikeR y
      · have p := may_m W y.1 _ _ y.2.1 y.2.2 L 0 (Lib.hid (if_pos hk)) g1 g2 hlen.1 hlen.2 hL1 hl
        have q := Lib.hid (CallsIn.inRound l (callsIn_wide.2 p : CallsIn Fence.wide 0 _ _ _ _ _))
        have HY := Lib.hid hk
        clear p g1 g2 hlen hk hpre hy hEx'
        generalize y.1 = sy at *
        gi_wp2_with fail
        refine ⟨trivial, ?_⟩
        refine q.out.mono ?_
        rintro e W2 ⟨rfl, hf⟩
        gi_wp2_with fail
        refine ⟨keeps_fr _ hf, hf.mono fun k hk _ => hk, fun i hi => (List.mem_append.1 hi).elim (HP.out i) (fun e => by simp only [List.mem_singleton] at e; subst e; rw [← HX.out]; exact HY.out), hM.keep hf (fun k hk => ?_)⟩
        rcases hk with hk | rfl
        · exact Nat.lt_of_lt_of_le hk (by have := hF.size; omega)
        · exact hbr.lt
      · have p := may_m W y.1 _ _ y.2.1 y.2.2 L 6 (Lib.hid (if_neg hk)) g1 g2 hlen.1 hlen.2 hL1 hl
        have q := Lib.hid (CallsIn.inRound l (callsIn_wide.2 p : CallsIn Fence.wide 0 _ _ _ _ _))
        have HY := Lib.hid hk
        clear p g1 g2 hlen hk hpre hy hEx'
        generalize y.1 = sy at *
        gi_wp2_with fail
        refine ⟨trivial, ?_⟩
        refine q.out.mono ?_
        rintro e W2 ⟨rfl, hf⟩
        have hb2 := hbr.fr hf hbr.lt
        have cr := hb2.cell
        have fr := hb2.free
        gi_wp2_with fail
        exact ⟨(keeps_fr _ hf).trans ((KeepsOthers.setCell _ _ _).from _), rfl, ⟨x, by simp, by rw [← HX.out]; exact HY.out⟩, hb2.set _, (hF.comp hf fun k _ hk => ⟨hk, by have := hF.size; omega⟩).setBox (fun _ h => by omega) _⟩
    case done =>
      rintro D ys W hD rfl ⟨hpre, ⟨r0, hbr⟩, hF⟩ hK
      have HN : r = 0 := HR.out.trans (mayT_0 HF.out.symm fun x hx => by
        obtain ⟨i, hi, rfl⟩ := mem_getD hx
        exact hpre i (List.mem_range.2 hi))
      have cr := hbr.cell
      have fr := hbr.free
      have hbs := hbr.set (.int .i64 0)
      have F3 := (F2.trans hF).setBox (p := w.heap.size + 1) (fun _ h => by omega) (.int .i64 0)
      clear hpre
      gi_wp2
      have hK' := (KeepsOthers.setCell W ⟨w.heap.size + 1, 0, none⟩ (.int .i64 0)).same D _ hK rfl
      have hc5 := cell_kept hbs.cell (grownBy_putObj' _ D (.deferred none)) (fun r e => by cases e; exact ⟨_, hK', rfl⟩)
      exact leaves_mark hK' rfl (v := .int .i64 0) (by simp [results, Tryz.f16, go_sem, hc5]) ⟨congrArg (fun z : Int => Ending.returned (.int .i64 z)) HN.symm, F3.comp (Fr.of_grown (grownBy_putObj' _ D (.deferred none))) fun k hk hk' => ⟨hk', fun e => by cases e; omega⟩⟩ rfl
    case stop =>
      rintro D cc pre W hD hpre ⟨rfl, ⟨i, hi, hno⟩, hbr, hF⟩ hK
      have HN : r = 6 := HR.out.trans (mayT_6 HF.out.symm fun h => hno (h _ (getD_mem (List.mem_range.1 (hpre.subset hi)))))
      have F3 := F2.trans hF
      clear hno
      gi_wp2
      have hc5 := cell_kept hbr.cell (grownBy_putObj' _ D (.deferred none)) (fun r e => by cases e; exact ⟨_, hK, rfl⟩)
      exact leaves_mark hK rfl (v := .int .i64 6) (by simp [results, Tryz.f16, go_sem, hc5]) ⟨congrArg (fun z : Int => Ending.returned (.int .i64 z)) HN.symm, F3.comp (Fr.of_grown (grownBy_putObj' _ D (.deferred none))) fun k hk hk' => ⟨hk', fun e => by cases e; omega⟩⟩ rfl
  · have HN : r = f := HR.out.trans ((mayT_no (by rw [← HF.out]; exact h0)).trans HF.out.symm)
    have cr := hr1.cell
    have fr := hr1.free
    have hbs := hr1.set (.int .i64 f)
    have F2 := F1.setBox (p := w.heap.size + 1) (fun _ h => by omega) (.int .i64 f)
    gi_wp2_with fail
    exact ⟨.int .i64 f, by simp [results, Tryz.f16, go_sem, hbs.cell], congrArg (fun z : Int => Ending.returned (.int .i64 z)) HN.symm, F2⟩
end Go.Proofs.YtjnojkfkhccgaaaGreat

import Derived.Test.YtlppcfeimpcbjaaGreatBaseI
set_option linter.unusedSimpArgs false
set_option linter.unusedVariables false

/- A region that draws its order, whose operations but the last ones only lay new memory: whatever the order, what each of them is to yield holds in the end; then the last ones come up. -/
namespace Go.Proofs.YtlppcfeimpcbjaaGreat
open Go.RowKit

/-- What is said of an operation's result (and of those of earlier ones): it stays, whatever is laid behind the memory. -/
structure Fact where
  of : List Nat
  is : List Value → World → Prop
  keep : ∀ {l : List Value} {w w' : World}, Fr (fun k => k < w.heap.size) w w' → is l w → is l w'
abbrev Fact.at (F : Fact) (i : Nat) (vs : Nat → Value) (w : World) : Prop := F.is (vs i :: F.of.map vs) w
/-- A result is a value. -/
abbrev Fact.eq (v : Value) : Fact := ⟨[], fun l _ => l.headD undef = v, fun _ h => h⟩
/-- Something is said of a result alone. -/
abbrev Fact.one (p : Value → World → Prop) (hk : ∀ {v : Value} {w w' : World}, Fr (fun k => k < w.heap.size) w w' → p v w → p v w') : Fact := ⟨[], fun l w => p (l.headD undef) w, fun hf h => hk hf h⟩
/-- Something is said of a result and an earlier one, the memory aside. -/
abbrev Fact.two (j : Nat) (p : Value → Value → Prop) : Fact := ⟨[j], fun l _ => p (l.headD undef) (l.tail.headD undef), fun _ h => h⟩

def afters (md : Region.Mode) (ops : Array Oper) (i : Nat) : List Nat := ((ops[i]?).map fun o => (o.after.toList.filter fun e => Region.binds md e).map (·.on)).getD []
def dstOf (ops : Array Oper) (i : Nat) : Option Tmp := (ops[i]?).bind (·.dst)
def looks (ops : Array Oper) (i : Nat) : List Tmp := ((ops[i]?).map (·.looksAt ops)).getD []
def maskOf (T : List Nat) (l : List Nat) : Nat := l.foldl (fun m e => m ||| 1 <<< e ||| T.getD e 0) 0
theorem maskOf_from (T : List Nat) (k : Nat) : ∀ (l : List Nat) (m : Nat), (l.foldl (fun m e => m ||| 1 <<< e ||| T.getD e 0) m).testBit k = true → m.testBit k = true ∨ ∃ e ∈ l, e = k ∨ (T.getD e 0).testBit k = true
  | [], _, h => .inl h
  | e :: l, m, h => by
    rcases maskOf_from T k l _ h with h | ⟨x, hx, h⟩
    · rw [Nat.testBit_or, Nat.testBit_or, Nat.one_shiftLeft, Nat.testBit_two_pow] at h
      simp only [Bool.or_eq_true, decide_eq_true_eq] at h
      rcases h with (h | h) | h
      · exact .inl h
      · exact .inr ⟨e, List.mem_cons_self, .inl h⟩
      · exact .inr ⟨e, List.mem_cons_self, .inr h⟩
    · exact .inr ⟨x, List.mem_cons_of_mem _ hx, h⟩
theorem maskOf_spec {T : List Nat} {l : List Nat} {k : Nat} (h : (maskOf T l).testBit k = true) : ∃ e ∈ l, e = k ∨ (T.getD e 0).testBit k = true := by
  rcases maskOf_from T k l 0 h with h | h
  · rw [Nat.zero_testBit] at h; cases h
  · exact h

def distinct : List Nat → Bool
  | [] => true
  | a :: l => !l.contains a && distinct l
theorem distinct_nodup : ∀ {l : List Nat}, distinct l = true → l.Nodup
  | [], _ => List.nodup_nil
  | a :: l, h => by
    simp only [distinct, Bool.and_eq_true, Bool.not_eq_true'] at h
    refine List.nodup_cons.2 ⟨fun hm => ?_, distinct_nodup h.2⟩
    have := List.contains_iff_mem.2 hm
    rw [h.1] at this
    cases this

/-- Whatever an operation looks at has come up ahead of it; the last ones come up behind all others (but the loose ones U, that may be taken as soon as what they wait for has come up). -/
def freeOk (md : Region.Mode) (ops : Array Oper) (D0 : List Nat) (D : List (Nat × List Nat)) (U : List Nat) (T : List Nat) : Bool :=
  Region.noSelect ops
  && (D0.all fun k => !(D.map (·.1)).contains k && (afters md ops k).all fun e => D0.contains e)
  && ((List.range ops.size).all fun i => T.getD i 0 == maskOf T (afters md ops i) && (afters md ops i).all fun e => decide (e < i))
  && (D.all fun x => decide (x.1 < ops.size) && ((afters md ops x.1).all fun e => (D.map (·.1)).contains e || D0.contains e)
      && (x.2.all fun j => (T.getD x.1 0).testBit j)
      && (D.all fun y => (x.1 == y.1 || (dstOf ops x.1).isNone || dstOf ops x.1 != dstOf ops y.1)
          && ((dstOf ops y.1).all fun d => !(looks ops x.1).contains d || (T.getD x.1 0).testBit y.1)))
  && distinct (D.map (·.1))
  && ((List.range ops.size).all fun j => (D.map (·.1)).contains j || D0.contains j || D.all fun x => (T.getD j 0).testBit x.1 || (U.contains x.1 && (afters md ops x.1).all fun e => (T.getD j 0).testBit e))
  && (U.all fun u => (D.map (·.1)).contains u && (List.range ops.size).all fun j => j == u || (afters md ops j).contains u || (T.getD u 0).testBit j || ((ops[u]?).all fun o => (ops[j]?).all fun p => o.apart ops p))
structure FreeOk (md : Region.Mode) (ops : Array Oper) (D0 : List Nat) (D : List (Nat × List Nat)) (U : List Nat) (T : List Nat) : Prop where
  sel : Region.noSelect ops = true
  off : ∀ k ∈ D0, k ∉ D.map (·.1)
  base : ∀ k ∈ D0, ∀ e ∈ afters md ops k, e ∈ D0
  mask : ∀ i, i < ops.size → T.getD i 0 = maskOf T (afters md ops i)
  low : ∀ i, i < ops.size → ∀ e ∈ afters md ops i, e < i
  lt : ∀ x ∈ D, x.1 < ops.size
  shut : ∀ x ∈ D, ∀ e ∈ afters md ops x.1, e ∈ D.map (·.1) ∨ e ∈ D0
  deps : ∀ x ∈ D, ∀ j ∈ x.2, (T.getD x.1 0).testBit j = true
  apart : ∀ x ∈ D, ∀ y ∈ D, x.1 ≠ y.1 → ∀ d, dstOf ops x.1 = some d → dstOf ops y.1 ≠ some d
  sees : ∀ x ∈ D, ∀ y ∈ D, ∀ d, dstOf ops y.1 = some d → d ∈ looks ops x.1 → (T.getD x.1 0).testBit y.1 = true
  nodup : (D.map (·.1)).Nodup
  tail : ∀ j, j < ops.size → j ∉ D.map (·.1) → j ∉ D0 → ∀ x ∈ D, (T.getD j 0).testBit x.1 = true ∨ (x.1 ∈ U ∧ ∀ e ∈ afters md ops x.1, (T.getD j 0).testBit e = true)
  isin : ∀ u ∈ U, u ∈ D.map (·.1)
  loose : ∀ u ∈ U, ∀ o, ops[u]? = some o → ∀ j p, ops[j]? = some p → j ≠ u → u ∈ afters md ops j ∨ (T.getD u 0).testBit j = true ∨ o.apart ops p = true
theorem freeOk_spec {md : Region.Mode} {ops : Array Oper} {D0 : List Nat} {D : List (Nat × List Nat)} {U T : List Nat} (h : freeOk md ops D0 D U T = true) : FreeOk md ops D0 D U T := by
  simp only [freeOk, Bool.and_eq_true] at h
  obtain ⟨⟨⟨⟨⟨⟨h1, h0⟩, h2⟩, h3⟩, h4⟩, h5⟩, h6⟩ := h
  have m0 := fun k (hk : k ∈ D0) => List.all_eq_true.1 h0 k hk
  have m2 := fun i (hi : i < ops.size) => List.all_eq_true.1 h2 i (List.mem_range.2 hi)
  have m3 := fun x (hx : x ∈ D) => List.all_eq_true.1 h3 x hx
  have m6 := fun u (hu : u ∈ U) => List.all_eq_true.1 h6 u hu
  simp only [Bool.and_eq_true, beq_iff_eq] at m2 m3 m6
  simp only [Bool.and_eq_true, Bool.not_eq_true'] at m0
  refine ⟨h1, fun k hk hm => (by have := (m0 k hk).1; rw [List.contains_iff_mem.2 hm] at this; cases this), fun k hk e he => List.contains_iff_mem.1 (List.all_eq_true.1 (m0 k hk).2 e he), fun i hi => (m2 i hi).1, fun i hi e he => of_decide_eq_true (List.all_eq_true.1 (m2 i hi).2 e he), fun x hx => of_decide_eq_true (m3 x hx).1.1.1, fun x hx e he => by
      have := List.all_eq_true.1 (m3 x hx).1.1.2 e he
      rw [Bool.or_eq_true] at this
      exact this.imp List.contains_iff_mem.1 List.contains_iff_mem.1,
    fun x hx j hj => List.all_eq_true.1 (m3 x hx).1.2 j hj, fun x hx y hy hne d hd => ?_, fun x hx y hy d hd hl => ?_, distinct_nodup h4, fun j hj hn hn0 x hx => ?_, fun u hu => List.contains_iff_mem.1 (m6 u hu).1, fun u hu o ho j p hp hne => ?_⟩
  · have := List.all_eq_true.1 (m3 x hx).2 y hy
    simp only [Bool.and_eq_true, Bool.or_eq_true, beq_iff_eq] at this
    rcases this.1 with (h | h) | h
    · exact absurd h hne
    · rw [hd] at h; cases h
    · intro he
      rw [hd, he] at h
      simp at h
  · have := List.all_eq_true.1 (m3 x hx).2 y hy
    simp only [Bool.and_eq_true] at this
    have h2 := this.2
    rw [hd] at h2
    simp only [Option.all_some, Bool.or_eq_true, Bool.not_eq_true'] at h2
    rcases h2 with h2 | h2
    · have := List.contains_iff_mem.2 hl
      rw [h2] at this
      cases this
    · exact h2
  · have := List.all_eq_true.1 h5 j (List.mem_range.2 hj)
    simp only [Bool.or_eq_true] at this
    rcases this with (h | h) | h
    · exact absurd (List.contains_iff_mem.1 h) hn
    · exact absurd (List.contains_iff_mem.1 h) hn0
    · have h7 := List.all_eq_true.1 h x hx
      simp only [Bool.or_eq_true, Bool.and_eq_true] at h7
      rcases h7 with h7 | ⟨h7, h8⟩
      · exact .inl h7
      · exact .inr ⟨List.contains_iff_mem.1 h7, fun e he => List.all_eq_true.1 h8 e he⟩
  · have := List.all_eq_true.1 (m6 u hu).2 j (List.mem_range.2 (Array.getElem?_eq_some_iff.1 hp).1)
    rw [ho, hp] at this
    simp only [Option.all_some, Bool.or_eq_true, beq_iff_eq] at this
    rcases this with ((h | h) | h) | h
    · exact absurd h hne
    · exact .inl (List.contains_iff_mem.1 h)
    · exact .inr (.inl h)
    · exact .inr (.inr h)

/-- What has come up is closed under what it waited for. -/
def Shut (md : Region.Mode) (ops : Array Oper) (done : Array Bool) : Prop := ∀ j, done.getD j false = true → ∀ e ∈ afters md ops j, done.getD e false = true
theorem anc_done {md : Region.Mode} {ops : Array Oper} {D0 : List Nat} {D : List (Nat × List Nat)} {U T : List Nat} (ok : FreeOk md ops D0 D U T) {done : Array Bool} (hs : Shut md ops done) : ∀ (j : Nat), j < ops.size → (∀ e ∈ afters md ops j, done.getD e false = true) → ∀ k, (T.getD j 0).testBit k = true → done.getD k false = true := by
  intro j
  induction j using Nat.strongRecOn with
  | _ j ih =>
    intro hj ha k hk
    rw [ok.mask j hj] at hk
    obtain ⟨e, he, rfl | h⟩ := maskOf_spec hk
    · exact ha _ he
    · have := ok.low j hj e he
      exact ih e this (by omega) (hs e (ha e he)) k h
theorem mem_afters {md : Region.Mode} {ops : Array Oper} {i : Nat} {o : Oper} (ho : ops[i]? = some o) {k : Nat} : k ∈ afters md ops i ↔ ∃ e ∈ o.after, Region.binds md e = true ∧ e.on = k := by
  unfold afters
  rw [ho]
  simp [and_assoc]
theorem ready_iff {md : Region.Mode} {ops : Array Oper} {i : Nat} {done : Array Bool} : i ∈ Region.ready md ops done ↔ done.getD i true = false ∧ i < ops.size ∧ ∀ e ∈ afters md ops i, done.getD e false = true := by
  rw [mem_ready]
  constructor
  · rintro ⟨h0, o, ho, h⟩
    refine ⟨h0, (Array.getElem?_eq_some_iff.1 ho).1, fun e he => ?_⟩
    obtain ⟨x, hx, hb, rfl⟩ := (mem_afters ho).1 he
    exact h x hx hb
  · rintro ⟨h0, hi, h⟩
    have ho := Array.getElem?_eq_getElem hi
    exact ⟨h0, _, ho, fun e he hb => h _ ((mem_afters ho).2 ⟨e, he, hb, rfl⟩)⟩
theorem getD_tf {done : Array Bool} {i : Nat} (h : done.getD i true = false) : done.getD i false = false := by
  rcases Nat.lt_or_ge i done.size with h' | h'
  · simp [h'] at h ⊢; exact h
  · simp [Array.getElem?_eq_none h'] at h
theorem getD_ft {done : Array Bool} {i : Nat} (hi : i < done.size) (h : done.getD i false = false) : done.getD i true = false := by
  simp [hi] at h ⊢; exact h
theorem getD_set {done : Array Bool} {i k : Nat} (hi : i < done.size) : (done.setIfInBounds i true).getD k false = true ↔ done.getD k false = true ∨ k = i := by
  rcases Nat.decEq i k with h | rfl
  · rw [getD_set_ne false h]
    exact ⟨.inl, fun h' => h'.resolve_right fun e => h e.symm⟩
  · exact ⟨fun _ => .inr rfl, fun _ => by simp [hi]⟩
theorem Shut.set {md : Region.Mode} {ops : Array Oper} {done : Array Bool} {i : Nat} (hs : Shut md ops done) (hi : i < done.size) (hr : i ∈ Region.ready md ops done) : Shut md ops (done.setIfInBounds i true) := by
  intro j hj e he
  rw [getD_set hi] at hj ⊢
  rcases hj with hj | rfl
  · exact .inl (hs j hj e he)
  · exact .inl ((ready_iff.1 hr).2.2 e he)

/-- The results of those that have come up lie in their places; else all is as it was. -/
structure Fill (ops : Array Oper) (I : List Nat) (base : Act) (vs : Nat → Value) (d : Nat → Prop) (a : Act) : Prop where
  defers : a.defers = base.defers
  size : a.tmps.size = base.tmps.size
  here : ∀ k ∈ I, d k → ∀ t, dstOf ops k = some t → t < base.tmps.size → a.tmps[t]? = some (vs k)
  there : ∀ t, (∀ k ∈ I, d k → dstOf ops k ≠ some t) → a.tmps[t]? = base.tmps[t]?
theorem Act.put_defs (a : Act) (x : Option Tmp) (v : Value) : (a.put x v).defers = a.defers := by cases x <;> rfl
theorem Act.put_size (a : Act) (x : Option Tmp) (v : Value) : (a.put x v).tmps.size = a.tmps.size := by cases x <;> simp [Act.put]
theorem Act.put_get (a : Act) (x : Option Tmp) (v : Value) {t : Nat} (h : x ≠ some t) : (a.put x v).tmps[t]? = a.tmps[t]? := by
  cases x with
  | none => rfl
  | some d => simp [Act.put, Array.getElem?_setIfInBounds_ne (show d ≠ t from fun e => h (by rw [e]))]
theorem Fill.init (ops : Array Oper) (I : List Nat) (base : Act) (vs : Nat → Value) {d : Nat → Prop} (hd : ∀ k, ¬ d k) : Fill ops I base vs d base :=
  ⟨rfl, rfl, fun k _ h => absurd h (hd k), fun _ _ => rfl⟩
theorem Fill.put {ops : Array Oper} {I : List Nat} {base : Act} {vs vs' : Nat → Value} {d d' : Nat → Prop} {a : Act} (h : Fill ops I base vs d a) {i : Nat} (hi : i ∈ I) (hdi : ¬ d i) (hvs : ∀ k, d k → vs' k = vs k) (hd' : ∀ k, d' k ↔ d k ∨ k = i)
    (hap : ∀ k ∈ I, k ≠ i → ∀ t, dstOf ops k = some t → dstOf ops i ≠ some t) : Fill ops I base vs' d' (a.put (dstOf ops i) (vs' i)) := by
  refine ⟨(Act.put_defs _ _ _).trans h.defers, (Act.put_size _ _ _).trans h.size, fun k hk hdk t ht hts => ?_, fun t ht => ?_⟩
  · rcases (hd' k).1 hdk with hk' | rfl
    · have hne : k ≠ i := fun e => hdi (e ▸ hk')
      rw [Act.put_get _ _ _ (hap k hk hne t ht), hvs k hk']
      exact h.here k hk hk' t ht hts
    · rw [ht]
      simp [Act.put, h.size, hts]
  · rw [Act.put_get _ _ _ (ht i hi ((hd' i).2 (.inr rfl)))]
    exact h.there t fun k hk hdk => ht k hk ((hd' k).2 (.inl hdk))
/-- All results in their places. -/
def filled (ops : Array Oper) (I : List Nat) (base : Act) (vs : Nat → Value) : Act := I.foldl (fun a k => a.put (dstOf ops k) (vs k)) base
theorem fill_row {ops : Array Oper} {I : List Nat} {base : Act} {vs : Nat → Value} (hap : ∀ i ∈ I, ∀ k ∈ I, k ≠ i → ∀ t, dstOf ops k = some t → dstOf ops i ≠ some t) :
    ∀ (l : List Nat) (d : Nat → Prop) (a : Act), (∀ k ∈ l, k ∈ I) → l.Nodup → (∀ k ∈ l, ¬ d k) → Fill ops I base vs d a → Fill ops I base vs (fun k => d k ∨ k ∈ l) (l.foldl (fun a k => a.put (dstOf ops k) (vs k)) a)
  | [], d, a, _, _, _, h => by
    have : (fun k => d k ∨ k ∈ ([] : List Nat)) = d := by funext k; simp
    rw [this]; exact h
  | i :: l, d, a, hI, hn, hd, h => by
    obtain ⟨hn1, hn2⟩ := List.nodup_cons.1 hn
    have h1 := h.put (hI i List.mem_cons_self) (hd i List.mem_cons_self) (fun _ _ => rfl) (d' := fun k => d k ∨ k = i) (fun _ => Iff.rfl) (hap i (hI i List.mem_cons_self))
    have h2 := fill_row hap l _ _ (fun k hk => hI k (List.mem_cons_of_mem _ hk)) hn2 (fun k hk hd' => by
      rcases hd' with hd' | rfl
      · exact hd k (List.mem_cons_of_mem _ hk) hd'
      · exact hn1 hk) h1
    have : (fun k => (d k ∨ k = i) ∨ k ∈ l) = fun k => d k ∨ k ∈ i :: l := by funext k; simp [or_assoc]
    rw [this] at h2
    exact h2
theorem Fill.full {ops : Array Oper} {I : List Nat} {base : Act} {vs : Nat → Value} (hap : ∀ i ∈ I, ∀ k ∈ I, k ≠ i → ∀ t, dstOf ops k = some t → dstOf ops i ≠ some t) (hn : I.Nodup) : Fill ops I base vs (fun k => k ∈ I) (filled ops I base vs) := by
  have h := fill_row hap I (fun _ => False) base (fun _ h => h) hn (fun _ _ h => h) (Fill.init ops I base vs fun _ h => h)
  have : (fun k => False ∨ k ∈ I) = fun k => k ∈ I := by funext k; simp
  rw [this] at h
  exact h
theorem Fill.get {ops : Array Oper} {I : List Nat} {base : Act} {vs : Nat → Value} {d e : Nat → Prop} {a b : Act} (h : Fill ops I base vs d a) (g : Fill ops I base vs e b) {t : Nat} (hd : ∀ k ∈ I, dstOf ops k = some t → d k ∧ e k) : a.tmps[t]? = b.tmps[t]? := by
  by_cases hk : ∃ k, k ∈ I ∧ dstOf ops k = some t
  · obtain ⟨k, hk, ht⟩ := hk
    obtain ⟨h1, h2⟩ := hd k hk ht
    rcases Nat.lt_or_ge t base.tmps.size with hts | hts
    · rw [h.here k hk h1 t ht hts, g.here k hk h2 t ht hts]
    · rw [Array.getElem?_eq_none (by rw [h.size]; exact hts), Array.getElem?_eq_none (by rw [g.size]; exact hts)]
  · rw [h.there t fun k hk' _ ht => hk ⟨k, hk', ht⟩, g.there t fun k hk' _ ht => hk ⟨k, hk', ht⟩]
theorem Fill.same {ops : Array Oper} {I : List Nat} {base : Act} {vs : Nat → Value} {d e : Nat → Prop} {a b : Act} (h : Fill ops I base vs d a) (g : Fill ops I base vs e b) (hd : ∀ k ∈ I, d k ∧ e k) : a = b := by
  have h1 : a.tmps = b.tmps := Array.ext_getElem? fun t => h.get g fun k hk _ => hd k hk
  have h2 : a.defers = b.defers := h.defers.trans g.defers.symm
  cases a; cases b
  simp only at h1 h2
  rw [h1, h2]

theorem wp_fill {P : Program} {Q : Exit → Act → World → Prop} {o : Oper} {a A : Act} (he : execOp a.eval o = execOp A.eval o) (hq : ∀ c w, Q (.panic c) A w → Q (.panic c) a w) (hsz : a.tmps.size = A.tmps.size) {G : Value → World → Prop} {w : World}
    (h : o.wp P A w (fun b u => ∃ v, b = A.put o.dst v ∧ G v u) Q) : o.wp P a w (fun b u => ∃ v, b = a.put o.dst v ∧ G v u) Q := by
  have hput : ∀ v v', A.put o.dst v = A.put o.dst v' → a.put o.dst v = a.put o.dst v' := by
    intro v v' e
    cases hd : o.dst with
    | none => rfl
    | some d =>
      rw [hd] at e
      have e1 := congrArg (fun b : Act => b.tmps[d]?) e
      simp only [Act.put] at e1 ⊢
      rcases Nat.lt_or_ge d A.tmps.size with hlt | hge
      · simp [hlt] at e1
        rw [e1]
      · rw [Array.setIfInBounds_eq_of_size_le (by omega), Array.setIfInBounds_eq_of_size_le (by omega)]
  unfold Oper.wp at *
  rw [he]
  generalize (execOp A.eval o).run P w = r at *
  cases r with
  | ok n w' =>
    cases n <;> simp only [Oper.upon] at h ⊢
    case value u => obtain ⟨v, e, g⟩ := h; exact ⟨v, hput _ _ e, g⟩
    case skip => obtain ⟨v, e, g⟩ := h; exact ⟨v, hput _ _ e, g⟩
    case defer d =>
      obtain ⟨v, e, g⟩ := h
      have := congrArg Act.defers e
      rw [Act.put_defs, Act.put_defs] at this
      exact absurd (congrArg List.length this) (by simp)
    case enter f args =>
      refine Calls.mono h fun e w'' he => ?_
      cases e with
      | returned u => obtain ⟨v, e, g⟩ := he; exact ⟨v, hput _ _ e, g⟩
      | panicked c => exact hq _ _ he
      | outgrown => exact he
    case row row args => exact Rows.mono h fun u w'' he => by obtain ⟨v, e, g⟩ := he; exact ⟨v, hput _ _ e, g⟩
  | halt x w' =>
    cases x <;> simp only [Oper.upon] at h ⊢
    case panic u => exact hq _ _ h

/-- An operation yields what it is to yield. -/
def stepAt (P : Program) (ops : Array Oper) (Q : Exit → Act → World → Prop) (A : Act) (i : Nat) (w : World) (G : Value → World → Prop) : Prop :=
  ∃ o, ops[i]? = some o ∧ ((Region.wanted o (yielded ops A.tmps) = true ∧ ∀ K : Act → World → Prop, (∀ v u, Fr (fun k => k < w.heap.size) w u → G v u → K (A.put o.dst v) u) → o.wp P A w K Q) ∨
    (Region.wanted o (yielded ops A.tmps) = false ∧ G undef w))
theorem stepAt.call {P : Program} {ops : Array Oper} {Q : Exit → Act → World → Prop} {A : Act} {i : Nat} {w : World} {G : Value → World → Prop} {o : Oper} {f : FuncId} {args : Array Value} (ho : ops[i]? = some o) (hw : Region.wanted o (yielded ops A.tmps) = true)
    (hr : (execOp A.eval o).run P w = .ok (.enter f args) w) (hc : Calls P f args w fun e u => ∃ v, e = .returned v ∧ Fr (fun k => k < w.heap.size) w u ∧ G v u) : stepAt P ops Q A i w G := by
  refine ⟨o, ho, .inl ⟨hw, fun K hK => ?_⟩⟩
  unfold Oper.wp
  rw [hr, Oper.upon_enter]
  refine hc.mono ?_
  rintro e u ⟨v, rfl, hf, hg⟩
  exact hK v u hf hg
theorem stepAt.value {P : Program} {ops : Array Oper} {Q : Exit → Act → World → Prop} {A : Act} {i : Nat} {w : World} {G : Value → World → Prop} {o : Oper} {v : Value} {u : World} (ho : ops[i]? = some o) (hw : Region.wanted o (yielded ops A.tmps) = true)
    (hr : (execOp A.eval o).run P w = .ok (.value v) u) (hf : Fr (fun k => k < w.heap.size) w u) (hg : G v u) : stepAt P ops Q A i w G := by
  refine ⟨o, ho, .inl ⟨hw, fun K hK => ?_⟩⟩
  unfold Oper.wp
  rw [hr]
  exact hK v u hf hg
theorem stepAt.pure {P : Program} {ops : Array Oper} {Q : Exit → Act → World → Prop} {A : Act} {i : Nat} {w : World} {G : Value → World → Prop} {o : Oper} {v : Value} (ho : ops[i]? = some o) (hw : Region.wanted o (yielded ops A.tmps) = true)
    (hr : (execOp A.eval o).run P w = .ok (.value v) w) (hg : G v w) : stepAt P ops Q A i w G := stepAt.value ho hw hr (Fr.refl _ _) hg
theorem stepAt.unwanted {P : Program} {ops : Array Oper} {Q : Exit → Act → World → Prop} {A : Act} {i : Nat} {w : World} {G : Value → World → Prop} {o : Oper} (ho : ops[i]? = some o) (hw : Region.wanted o (yielded ops A.tmps) = false) (hg : G undef w) : stepAt P ops Q A i w G :=
  ⟨o, ho, .inr ⟨hw, hg⟩⟩

/-- An operation that looks at no memory yields what it is to yield. -/
def pureAt (P : Program) (ops : Array Oper) (A : Act) (i : Nat) (w : World) (G : Value → World → Prop) : Prop := ∃ o v, ops[i]? = some o ∧ Yields P ops o v A ∧ G v w
theorem pureAt.of {P : Program} {ops : Array Oper} {A : Act} {i : Nat} {w : World} {G : Value → World → Prop} {o : Oper} {v : Value} (ho : ops[i]? = some o) (hw : Region.wanted o (yielded ops A.tmps) = true) (hr : ∀ u, (execOp A.eval o).run P u = .ok (.value v) u) (hg : G v w) : pureAt P ops A i w G :=
  ⟨o, v, ho, .inl ⟨hw, hr⟩, hg⟩
theorem pureAt.not {P : Program} {ops : Array Oper} {A : Act} {i : Nat} {w : World} {G : Value → World → Prop} {o : Oper} (ho : ops[i]? = some o) (hw : Region.wanted o (yielded ops A.tmps) = false) (hg : G undef w) : pureAt P ops A i w G :=
  ⟨o, undef, ho, .inr ⟨hw, rfl⟩, hg⟩

/-- What holds, of those that an operation waited for. -/
def factsIf (m : Nat) (vs : Nat → Value) (w : World) : List (Nat × Fact) → Prop
  | [] => True
  | (j, F) :: l => (m.testBit j = true → F.at j vs w) ∧ factsIf m vs w l
def factsAll (vs : Nat → Value) (w : World) : List (Nat × Fact) → Prop
  | [] => True
  | (j, F) :: l => F.at j vs w ∧ factsAll vs w l
theorem factsIf_of {m : Nat} {vs : Nat → Value} {w : World} : ∀ {l : List (Nat × Fact)}, (∀ x ∈ l, m.testBit x.1 = true → x.2.at x.1 vs w) → factsIf m vs w l
  | [], _ => trivial
  | (_, _) :: _, h => ⟨h _ List.mem_cons_self, factsIf_of fun x hx => h x (List.mem_cons_of_mem _ hx)⟩
theorem factsAll_of {vs : Nat → Value} {w : World} : ∀ {l : List (Nat × Fact)}, (∀ x ∈ l, x.2.at x.1 vs w) → factsAll vs w l
  | [], _ => trivial
  | (_, _) :: _, h => ⟨h _ List.mem_cons_self, factsAll_of fun x hx => h x (List.mem_cons_of_mem _ hx)⟩
def stepsOk (P : Program) (ops : Array Oper) (Q : Exit → Act → World → Prop) (All : List (Nat × Fact)) (T : List Nat) (A : (Nat → Value) → Act) (w0 : World) : List (Nat × Fact) → Prop
  | [] => True
  | (i, F) :: l => (∀ (vs : Nat → Value) (w : World), factsIf (T.getD i 0) vs w All → Fr (fun k => k < w0.heap.size) w0 w → stepAt P ops Q (A vs) i w fun v u => F.is (v :: F.of.map vs) u) ∧ stepsOk P ops Q All T A w0 l
theorem stepsOk_mem {P : Program} {ops : Array Oper} {Q : Exit → Act → World → Prop} {All : List (Nat × Fact)} {T : List Nat} {A : (Nat → Value) → Act} {w0 : World} : ∀ {l : List (Nat × Fact)}, stepsOk P ops Q All T A w0 l → ∀ x ∈ l, ∀ (vs : Nat → Value) (w : World), factsIf (T.getD x.1 0) vs w All → Fr (fun k => k < w0.heap.size) w0 w → stepAt P ops Q (A vs) x.1 w fun v u => x.2.is (v :: x.2.of.map vs) u
  | [], _, x, hx => by cases hx
  | (i, F) :: l, h, x, hx => by
    rcases List.mem_cons.1 hx with rfl | hx
    · exact h.1
    · exact stepsOk_mem h.2 x hx
def loosesOk (P : Program) (ops : Array Oper) (All : List (Nat × Fact)) (T : List Nat) (A : (Nat → Value) → Act) (w0 : World) : List (Nat × Fact) → Prop
  | [] => True
  | (i, F) :: l => (∀ (vs : Nat → Value) (w : World), factsIf (T.getD i 0) vs w All → Fr (fun k => k < w0.heap.size) w0 w → pureAt P ops (A vs) i w fun v u => F.is (v :: F.of.map vs) u) ∧ loosesOk P ops All T A w0 l
theorem loosesOk_mem {P : Program} {ops : Array Oper} {All : List (Nat × Fact)} {T : List Nat} {A : (Nat → Value) → Act} {w0 : World} : ∀ {l : List (Nat × Fact)}, loosesOk P ops All T A w0 l → ∀ x ∈ l, ∀ (vs : Nat → Value) (w : World), factsIf (T.getD x.1 0) vs w All → Fr (fun k => k < w0.heap.size) w0 w → pureAt P ops (A vs) x.1 w fun v u => x.2.is (v :: x.2.of.map vs) u
  | [], _, x, hx => by cases hx
  | (i, F) :: l, h, x, hx => by
    rcases List.mem_cons.1 hx with rfl | hx
    · exact h.1
    · exact loosesOk_mem h.2 x hx

def undone (I : List Nat) (done : Array Bool) : Nat := (I.filter fun i => !done.getD i false).length
theorem undone_set {done : Array Bool} {i : Nat} (hi : i < done.size) (hu : done.getD i false = false) : ∀ {I : List Nat}, I.Nodup → i ∈ I → undone I (done.setIfInBounds i true) + 1 = undone I done
  | [], _, h => by cases h
  | k :: I, hn, h => by
    obtain ⟨h1, h2⟩ := List.nodup_cons.1 hn
    unfold undone
    rcases List.mem_cons.1 h with rfl | h
    · have e1 : (done.setIfInBounds i true).getD i false = true := (getD_set hi).2 (.inr rfl)
      have e2 : I.filter (fun j => !(done.setIfInBounds i true).getD j false) = I.filter fun j => !done.getD j false := List.filter_congr fun j hj => by
        have hne : i ≠ j := fun e => h1 (e ▸ hj)
        rw [getD_set_ne false hne]
      rw [List.filter_cons, List.filter_cons, e1, hu, e2]
      simp
    · have hne : i ≠ k := fun e => h1 (e ▸ h)
      have ih := undone_set hi hu h2 h
      unfold undone at ih
      rw [List.filter_cons, List.filter_cons, getD_set_ne false hne]
      split
      · simp only [List.length_cons]; omega
      · exact ih
theorem undone_zero {I : List Nat} {done : Array Bool} (h : undone I done = 0) : ∀ i ∈ I, done.getD i false = true := by
  intro i hi
  have := List.eq_nil_of_length_eq_zero h
  have h2 := List.filter_eq_nil_iff.1 this i hi
  simpa using h2
theorem undone_pos {I : List Nat} {done : Array Bool} (h : undone I done ≠ 0) : ∃ i ∈ I, done.getD i false = false := by
  unfold undone at h
  cases hl : I.filter fun i => !done.getD i false with
  | nil => rw [hl] at h; simp at h
  | cons i l =>
    have : i ∈ I.filter fun i => !done.getD i false := by rw [hl]; exact List.mem_cons_self
    rw [List.mem_filter] at this
    exact ⟨i, this.1, by simpa using this.2⟩
theorem undone_all (I : List Nat) (n : Nat) : undone I (Array.replicate n false) = I.length := by
  unfold undone
  rw [List.filter_eq_self.2]
  intro i _
  rcases Nat.lt_or_ge i n with h | h <;> simp [h]
theorem nodup_one {α : Type} {f : α → Nat} : ∀ {l : List α}, (l.map f).Nodup → ∀ {x y : α}, x ∈ l → y ∈ l → f x = f y → x = y
  | [], _, x, _, hx, _, _ => by cases hx
  | z :: l, hn, x, y, hx, hy, he => by
    rw [List.map_cons] at hn
    obtain ⟨h1, h2⟩ := List.nodup_cons.1 hn
    rcases List.mem_cons.1 hx with e | hx'
    · rcases List.mem_cons.1 hy with e' | hy'
      · rw [e, e']
      · exact absurd (List.mem_map.2 ⟨y, hy', by rw [← he, e]⟩) h1
    · rcases List.mem_cons.1 hy with e' | hy'
      · exact absurd (List.mem_map.2 ⟨x, hx', by rw [he, e']⟩) h1
      · exact nodup_one h2 hx' hy' he
def doneAll (n : Nat) (I : List Nat) : Array Bool := ((List.range n).map fun j => I.contains j).toArray

/-- An operation that looks at no memory may be taken at once. -/
theorem wpTill.loose {P : Program} {md : Region.Mode} {ops : Array Oper} {Q : Exit → Act → World → Prop} {S : World → Prop} {j i : Nat} {o : Oper} {v : Value} (hi : ops[i]? = some o) (hs : Region.noSelect ops = true) (hne : i ≠ j)
    (hQ : ∀ c a w, Q (.panic c) (a.put o.dst v) w → Q (.panic c) a w) :
    ∀ (n : Nat) (done : Array Bool) (a : Act) (w : World),
      (∀ k p, ops[k]? = some p → k ≠ i → done.getD k true = false → (∀ e ∈ p.after, Region.binds md e = true → e.on ≠ i) → o.apart ops p = true) →
      i ∈ Region.ready md ops done → Yields P ops o v a → (done.getD j true = false → S w) →
      wpTill P md ops Q S j n (done.setIfInBounds i true) (a.put o.dst v) w → wpTill P md ops Q S j (n + 1) done a w := by
  have hsel := Region.noSelect_spec hs
  intro n
  induction n with
  | zero =>
    intro done a w _ hr hy hS H
    refine ⟨fun h0 => (by rw [h0] at hr; cases hr), fun k hk => ?_⟩
    rcases Nat.decEq k i with hki | rfl
    · have h1 := ready_mono hk hki
      rw [H.1] at h1
      cases h1
    · exact hy.wpOp hi ⟨fun h => hS (by rwa [getD_set_ne true hne] at h), H⟩
  | succ n ih =>
    intro done a w hfree hr hy hS H
    refine ⟨fun h0 => (by rw [h0] at hr; cases hr), fun k hk => ?_⟩
    rcases Nat.decEq k i with hki | rfl
    · have h1 := H.2 k (ready_mono hk hki)
      obtain ⟨hun, p, hp, hall⟩ := mem_ready.1 hk
      have hno : ∀ e ∈ p.after, Region.binds md e = true → e.on ≠ i := by
        intro e he hb hei
        have h2 := hall e he hb
        have h3 := (mem_ready.1 hr).1
        rw [hei] at h2
        rw [getD_tf h3] at h2
        cases h2
      have h2 := wpOp_put hp (hfree k p hp hki hun hno) (fun cs b => hsel i o cs b hi) (fun cs b => hsel k p cs b hp) hQ hy h1
      refine wpOp_mono (fun b u hb => ?_) h2
      obtain ⟨hyb, hSb, hrest⟩ := hb
      have hSu : (done.setIfInBounds k true).getD j true = false → S u := fun h => hSb (by
        rw [Array.setIfInBounds_comm _ _ (Ne.symm hki), getD_set_ne true hne]
        exact h)
      refine ⟨hSu, ih _ b u (fun k' p' hp' hk' hun' hno' => hfree k' p' hp' hk' ?_ hno') (ready_mono hr (Ne.symm hki)) hyb hSu ?_⟩
      · rcases Nat.decEq k k' with hkk | rfl
        · rwa [getD_set_ne true hkk] at hun'
        · exact hun
      · rw [Array.setIfInBounds_comm _ _ hki]
        exact hrest
    · exact hy.wpOp hi ⟨fun h => hS (by rwa [getD_set_ne true hne] at h), H⟩

section
variable {P : Program} {md : Region.Mode} {ops : Array Oper} {Q : Exit → Act → World → Prop} {Es Us : List (Nat × Fact)} {T : List Nat} {base : Act} {w0 : World} {m : Nat} {A : (Nat → Value) → Act} {S : World → Prop} {jj : Nat} {D0 : List Nat}

theorem free_main (ok : FreeOk md ops D0 ((Es ++ Us).map fun e => (e.1, e.2.of)) (Us.map (·.1)) T) (hQ : ∀ c a a' w, a.defers = a'.defers → Q (.panic c) a w → Q (.panic c) a' w) (hS : ∀ u, Fr (fun k => k < w0.heap.size) w0 u → S u) (hj : jj ∉ Us.map (·.1)) (hA : ∀ vs, filled ops ((Es ++ Us).map (·.1)) base vs = A vs)
    (steps : stepsOk P ops Q (Es ++ Us) T A w0 Es) (looses : loosesOk P ops (Es ++ Us) T A w0 Us) (cont : ∀ vs w, factsAll vs w (Es ++ Us) → Fr (fun k => k < w0.heap.size) w0 w → wpTill P md ops Q S jj m (doneAll ops.size (D0 ++ (Es ++ Us).map (·.1))) (A vs) w) :
    ∀ (n : Nat) (done : Array Bool) (vs : Nat → Value) (a : Act) (w : World), undone ((Es ++ Us).map (·.1)) done = n → done.size = ops.size → Shut md ops done → (∀ j, done.getD j false = true ↔ j ∈ D0 ∧ j < ops.size ∨ j ∈ (Es ++ Us).map (·.1) ∧ done.getD j false = true) →
      Fill ops ((Es ++ Us).map (·.1)) base vs (fun k => done.getD k false = true) a → (∀ x ∈ Es ++ Us, done.getD x.1 false = true → x.2.at x.1 vs w) → Fr (fun k => k < w0.heap.size) w0 w → wpTill P md ops Q S jj (m + n) done a w := by
  obtain ⟨All, hAll⟩ : ∃ All, All = Es ++ Us := ⟨_, rfl⟩
  have hEs : ∀ x ∈ Es, x ∈ All := fun x hx => by rw [hAll]; exact List.mem_append_left _ hx
  have hUs : ∀ x ∈ Us, x ∈ All := fun x hx => by rw [hAll]; exact List.mem_append_right _ hx
  have hEU : ∀ x ∈ All, x ∈ Es ∨ x ∈ Us := fun x hx => by rw [hAll] at hx; exact List.mem_append.1 hx
  have smem := fun x hx => stepsOk_mem steps x hx
  have lmem := fun x hx => loosesOk_mem looses x hx
  rw [← hAll] at ok hA cont smem lmem ⊢
  have hII : (All.map fun e => (e.1, e.2.of)).map (·.1) = All.map (·.1) := by rw [List.map_map]; rfl
  have hnd : (All.map (·.1)).Nodup := hII ▸ ok.nodup
  have hone : ∀ x ∈ All, ∀ y ∈ All, x.1 = y.1 → x = y := fun x hx y hy he => by
    exact nodup_one hnd hx hy he
  have hap : ∀ i ∈ All.map (·.1), ∀ k ∈ All.map (·.1), k ≠ i → ∀ t, dstOf ops k = some t → dstOf ops i ≠ some t := by
    intro i hi k hk hne t ht
    obtain ⟨x, hx, rfl⟩ := List.mem_map.1 hi
    obtain ⟨y, hy, rfl⟩ := List.mem_map.1 hk
    exact ok.apart (y.1, y.2.of) (List.mem_map.2 ⟨y, hy, rfl⟩) (x.1, x.2.of) (List.mem_map.2 ⟨x, hx, rfl⟩) hne t ht
  have hlt : ∀ i ∈ All.map (·.1), i < ops.size := fun i hi => by
    obtain ⟨x, hx, rfl⟩ := List.mem_map.1 hi
    exact ok.lt (x.1, x.2.of) (List.mem_map.2 ⟨x, hx, rfl⟩)
  intro n
  induction n with
  | zero =>
    intro done vs a w hn hsz hsh hsub hfill hfacts hfr
    have hall := undone_zero hn
    have e1 : a = A vs := (hfill.same (Fill.full hap hnd) fun k hk => ⟨hall k hk, hk⟩).trans (hA vs)
    have e2 : done = doneAll ops.size (D0 ++ All.map (·.1)) := by
      refine Array.ext_getElem? fun j => ?_
      unfold doneAll
      rcases Nat.lt_or_ge j ops.size with hj | hj
      · have hj' : j < done.size := by omega
        rw [Array.getElem?_eq_getElem hj']
        have : done[j] = (D0 ++ All.map (·.1)).contains j := by
          rw [Bool.eq_iff_iff, List.contains_iff_mem, List.mem_append]
          have hd : done[j] = true ↔ done.getD j false = true := by simp [hj']
          rw [hd]
          constructor
          · intro h
            rcases (hsub j).1 h with h | h
            · exact .inl h.1
            · exact .inr h.1
          · rintro (h | h)
            · exact (hsub j).2 (.inl ⟨h, hj⟩)
            · exact hall j h
        rw [this]
        simp [hj]
      · rw [Array.getElem?_eq_none (by omega)]
        simp [hj]
    subst e1 e2
    exact cont vs w (factsAll_of fun x hx => hfacts x hx (hall _ (List.mem_map.2 ⟨x, hx, rfl⟩))) hfr
  | succ n ih =>
    intro done vs a w hn hsz hsh hsub hfill hfacts hfr
    have hfull := Fill.full (base := base) (vs := vs) hap hnd
    rw [hA vs] at hfull
    have hsize : a.tmps.size = (A vs).tmps.size := hfill.size.trans hfull.size.symm
    -- what an operation looks at lies in its place
    have hsee : ∀ x ∈ All, (∀ e ∈ afters md ops x.1, done.getD e false = true) → ∀ o, ops[x.1]? = some o → execOp a.eval o = execOp (A vs).eval o ∧ Region.wanted o (yielded ops a.tmps) = Region.wanted o (yielded ops (A vs).tmps) := by
      intro x hx hia o ho
      have hxD : (x.1, x.2.of) ∈ All.map (fun e => (e.1, e.2.of)) := List.mem_map.2 ⟨x, hx, rfl⟩
      have hanc := anc_done ok hsh x.1 (ok.lt _ hxD) hia
      have hlook : ∀ t, t ∈ o.looksAt ops → a.tmps[t]? = (A vs).tmps[t]? := fun t ht => hfill.get hfull fun k hk hkt => by
        obtain ⟨y, hy, rfl⟩ := List.mem_map.1 hk
        exact ⟨hanc _ (ok.sees _ hxD (y.1, y.2.of) (List.mem_map.2 ⟨y, hy, rfl⟩) t hkt (by unfold looks; rw [ho]; exact ht)), hk⟩
      refine ⟨execOp_congr o (fun cs b => Region.noSelect_spec ok.sel x.1 o cs b ho) fun z hz => ?_, ?_⟩
      · cases z with
        | tmp t =>
          have := hlook t (List.mem_append_left _ (List.mem_filterMap.2 ⟨.tmp t, by simpa using hz, rfl⟩))
          simp only [Act.eval, Array.getD_eq_getD_getElem?, this]
        | _ => rfl
      · unfold Region.wanted
        cases hg : o.guard with
        | none => rfl
        | some gw =>
          obtain ⟨g, want⟩ := gw
          have hy : yielded ops a.tmps g = yielded ops (A vs).tmps g := by
            unfold yielded
            cases ht : (ops[g]?).bind (·.dst) with
            | none => rfl
            | some t =>
              have := hlook t (by simp [Oper.looksAt, hg, ht])
              rw [Option.bind_some, Option.bind_some, this]
          simp only [hy]
    -- what comes behind
    have next : ∀ x ∈ All, done.getD x.1 true = false → (∀ e ∈ afters md ops x.1, done.getD e false = true) → ∀ o, ops[x.1]? = some o → ∀ v u, Fr (fun k => k < w.heap.size) w u → x.2.is (v :: x.2.of.map vs) u → wpTill P md ops Q S jj (m + n) (done.setIfInBounds x.1 true) (a.put o.dst v) u := by
      intro x hx hui hia o ho v u hf hg
      have hxD : (x.1, x.2.of) ∈ All.map (fun e => (e.1, e.2.of)) := List.mem_map.2 ⟨x, hx, rfl⟩
      have hxI : x.1 ∈ All.map (·.1) := List.mem_map.2 ⟨x, hx, rfl⟩
      have his := ok.lt _ hxD
      have hanc := anc_done ok hsh x.1 his hia
      have hud := getD_tf hui
      have hds : x.1 < done.size := by rw [hsz]; exact his
      have hdst : dstOf ops x.1 = o.dst := by unfold dstOf; rw [ho]; rfl
      have hr : x.1 ∈ Region.ready md ops done := ready_iff.2 ⟨hui, his, hia⟩
      have hvs : ∀ k, done.getD k false = true → (fun j => if j = x.1 then v else vs j) k = vs k := fun k hk => by
        have : k ≠ x.1 := fun e => by rw [e, hud] at hk; cases hk
        simp only [this, if_false]
      have hof : ∀ y ∈ All, (done.setIfInBounds x.1 true).getD y.1 false = true → ∀ j ∈ y.2.of, (fun j => if j = x.1 then v else vs j) j = vs j := fun y hy hd j hj => by
        have hyD : (y.1, y.2.of) ∈ All.map (fun e => (e.1, e.2.of)) := List.mem_map.2 ⟨y, hy, rfl⟩
        have hb := ok.deps _ hyD j hj
        refine hvs j ?_
        rcases (getD_set hds).1 hd with hd | he
        · exact anc_done ok hsh y.1 (ok.lt _ hyD) (hsh _ hd) j hb
        · rw [show (y.1, y.2.of).1 = x.1 from he] at hb
          exact hanc j hb
      refine ih _ (fun j => if j = x.1 then v else vs j) _ u ?_ (by simp [hsz]) (hsh.set hds hr) (fun j => ?_) ?_ (fun y hy hd => ?_) (hfr.comp hf fun k hk hk' => ⟨hk', Nat.lt_of_lt_of_le hk' hfr.size⟩)
      · have := undone_set hds hud hnd hxI
        omega
      · rw [getD_set hds]
        constructor
        · rintro (h | rfl)
          · rcases (hsub j).1 h with h | h
            · exact .inl h
            · exact .inr ⟨h.1, .inl h.2⟩
          · exact .inr ⟨hxI, .inr rfl⟩
        · rintro (h | h)
          · exact .inl ((hsub j).2 (.inl h))
          · exact h.2
      · have h9 := hfill.put (vs' := fun j => if j = x.1 then v else vs j) (d' := fun k => (done.setIfInBounds x.1 true).getD k false = true) hxI (by simp [hud]) hvs (fun k => getD_set hds) (hap _ hxI)
        rw [hdst] at h9
        simpa using h9
      · have hmap : y.2.of.map (fun j => if j = x.1 then v else vs j) = y.2.of.map vs := List.map_congr_left fun j hj => hof y hy hd j hj
        unfold Fact.at
        rw [hmap]
        by_cases he : y.1 = x.1
        · have hxy : y = x := hone y hy x hx he
          subst hxy
          simpa using hg
        · have hd' : done.getD y.1 false = true := ((getD_set hds).1 hd).resolve_right he
          simp only [he, if_false]
          exact y.2.keep hf (hfacts y hy hd')
    have hifs : ∀ x ∈ All, (∀ e ∈ afters md ops x.1, done.getD e false = true) → factsIf (T.getD x.1 0) vs w All := fun x hx hia =>
      factsIf_of fun y hy hm => hfacts y hy (anc_done ok hsh x.1 (hlt _ (List.mem_map.2 ⟨x, hx, rfl⟩)) hia _ hm)
    by_cases hU : ∃ x ∈ Us, done.getD x.1 false = false ∧ ∀ e ∈ afters md ops x.1, done.getD e false = true
    · obtain ⟨x, hx, hud, hia⟩ := hU
      have hxA := hUs x hx
      have hxI : x.1 ∈ All.map (·.1) := List.mem_map.2 ⟨x, hxA, rfl⟩
      have hui := getD_ft (by rw [hsz]; exact hlt _ hxI) hud
      obtain ⟨o, v, ho, hy, hg⟩ := lmem x hx vs w (hifs x hxA hia) hfr
      obtain ⟨h1, h2⟩ := hsee x hxA hia o ho
      have hr : x.1 ∈ Region.ready md ops done := ready_iff.2 ⟨hui, hlt _ hxI, hia⟩
      refine wpTill.loose ho ok.sel (fun e => hj (by rw [← e]; exact List.mem_map.2 ⟨x, hx, rfl⟩)) (fun c a w => hQ c _ _ w (Act.put_defs _ _ _)) (m + n) done a w (fun j p hp hne hun hno => ?_) hr (hy.of_same h1 h2) (fun _ => hS w hfr) (next x hxA hui hia o ho v w (Fr.refl _ _) hg)
      rcases ok.loose x.1 (List.mem_map.2 ⟨x, hx, rfl⟩) o ho j p hp hne with h | h | h
      · obtain ⟨e, he, hb, hon⟩ := (mem_afters hp).1 h
        exact absurd hon (hno e he hb)
      · have := anc_done ok hsh x.1 (hlt _ hxI) hia j h
        rw [getD_tf hun] at this
        cases this
      · exact h
    · have eager : ∀ x ∈ Us, (∀ e ∈ afters md ops x.1, done.getD e false = true) → done.getD x.1 false = true := fun x hx hia => by
        cases hd : done.getD x.1 false with
        | true => rfl
        | false => exact absurd ⟨x, hx, hd, hia⟩ hU
      obtain ⟨i0, hi0, hu0⟩ := undone_pos (I := All.map (·.1)) (done := done) (by omega)
      refine ⟨fun h0 => ?_, fun i hr => ?_⟩
      · exfalso
        have : ∀ i, i ∈ All.map (·.1) → done.getD i false = false → ∃ k, k ∈ Region.ready md ops done := by
          intro i
          induction i using Nat.strongRecOn with
          | _ i ih2 =>
            intro hi hu
            by_cases hall : ∀ e ∈ afters md ops i, done.getD e false = true
            · exact ⟨i, ready_iff.2 ⟨getD_ft (by rw [hsz]; exact hlt i hi) hu, hlt i hi, hall⟩⟩
            · obtain ⟨e, he⟩ := Classical.not_forall.1 hall
              obtain ⟨he1, he2⟩ := Classical.not_imp.1 he
              obtain ⟨x, hx, rfl⟩ := List.mem_map.1 hi
              have h3 := ok.shut (x.1, x.2.of) (List.mem_map.2 ⟨x, hx, rfl⟩) e he1
              rw [hII] at h3
              rcases h3 with h3 | h3
              · exact ih2 e (ok.low _ (hlt _ hi) e he1) h3 (by simpa using he2)
              · exact absurd ((hsub e).2 (.inl ⟨h3, Nat.lt_trans (ok.low _ (hlt _ hi) e he1) (hlt _ hi)⟩)) he2
        obtain ⟨k, hk⟩ := this i0 hi0 hu0
        rw [h0] at hk
        cases hk
      · obtain ⟨hui, his, hia⟩ := ready_iff.1 hr
        have hanc := anc_done ok hsh i his hia
        have hiI : i ∈ All.map (·.1) := by
          by_cases h : i ∈ All.map (·.1)
          · exact h
          · exfalso
            obtain ⟨y, hy, rfl⟩ := List.mem_map.1 hi0
            have hd : done.getD y.1 false = true := by
              rcases ok.tail i his (by rw [hII]; exact h) (fun h0 => by have := (hsub i).2 (.inl ⟨h0, his⟩); rw [getD_tf hui] at this; cases this) (y.1, y.2.of) (List.mem_map.2 ⟨y, hy, rfl⟩) with h3 | ⟨h3, h4⟩
              · exact hanc _ h3
              · obtain ⟨z, hz, hzy⟩ := List.mem_map.1 h3
                have hzy : z.1 = y.1 := hzy
                have := eager z hz fun e he => hanc e (h4 e (by rw [hzy] at he; exact he))
                rwa [hzy] at this
            rw [hu0] at hd
            cases hd
        obtain ⟨x, hx, rfl⟩ := List.mem_map.1 hiI
        have hxE : x ∈ Es := by
          rcases hEU x hx with h | h
          · exact h
          · have := eager x h hia
            rw [getD_tf hui] at this
            cases this
        obtain ⟨o, ho, hstep⟩ := smem x hxE vs w (hifs x hx hia) hfr
        obtain ⟨hex, hwn⟩ := hsee x hx hia o ho
        unfold wpOp
        simp only [ho, hwn]
        rcases hstep with ⟨hw, hs⟩ | ⟨hw, hg⟩
        · simp only [hw, if_true]
          refine .inl (Oper.wp_mono ?_ (wp_fill hex (fun c u => hQ c _ _ u (hfull.defers.trans hfill.defers.symm)) hsize (G := fun v u => Fr (fun k => k < w.heap.size) w u ∧ x.2.is (v :: x.2.of.map vs) u) (hs _ fun v u hf hg => ⟨v, rfl, hf, hg⟩)))
          rintro b u ⟨v, rfl, hf, hg⟩
          exact ⟨fun _ => hS u (hfr.comp hf fun k hk hk' => ⟨hk', Nat.lt_of_lt_of_le hk' hfr.size⟩), next x hx hui hia o ho v u hf hg⟩
        · simp only [hw, Bool.false_eq_true, if_false]
          exact ⟨fun _ => hS w hfr, next x hx hui hia o ho undef w (Fr.refl _ _) hg⟩


/-- All results in their places, which are named. -/
def fillD (ds : List (Nat × Option Tmp)) (base : Act) (vs : Nat → Value) : Act := ds.foldl (fun a p => a.put p.2 (vs p.1)) base
theorem fillD_eq {ops : Array Oper} (base : Act) (vs : Nat → Value) : ∀ (I : List Nat) (a : Act), (I.map fun k => (k, dstOf ops k)).foldl (fun a p => a.put p.2 (vs p.1)) a = I.foldl (fun a k => a.put (dstOf ops k) (vs k)) a
  | [], _ => rfl
  | k :: I, a => by rw [List.map_cons, List.foldl_cons, List.foldl_cons]; exact fillD_eq base vs I _
/-- The free operations come up, in whatever order; the last ones are left. -/
theorem wpTill.free (Es Us : List (Nat × Fact)) (T : List Nat) (D0 : List Nat) (A : (Nat → Value) → Act) {done : Array Bool} (hd : done = doneAll ops.size D0) (hc : freeOk md ops D0 ((Es ++ Us).map fun e => (e.1, e.2.of)) (Us.map (·.1)) T = true) (hj : (Us.map (·.1)).contains jj = false) (ds : List (Nat × Option Tmp)) (hds : ((Es ++ Us).map (·.1)).map (fun k => (k, dstOf ops k)) = ds) (hA : ∀ vs, fillD ds base vs = A vs)
    (hQ : ∀ c (t t' : Array Value) d w, Q (.panic c) ⟨t, d⟩ w → Q (.panic c) ⟨t', d⟩ w) (hS : ∀ u, Fr (fun k => k < w0.heap.size) w0 u → S u) {n : Nat} (hm : m + (Es ++ Us).length = n)
    (steps : stepsOk P ops Q (Es ++ Us) T A w0 Es) (looses : loosesOk P ops (Es ++ Us) T A w0 Us) (cont : ∀ vs w, factsAll vs w (Es ++ Us) → Fr (fun k => k < w0.heap.size) w0 w → wpTill P md ops Q S jj m (doneAll ops.size (D0 ++ (Es ++ Us).map (·.1))) (A vs) w) :
    wpTill P md ops Q S jj n done base w0 := by
  have ok := freeOk_spec hc
  have hII : ((Es ++ Us).map fun e => (e.1, e.2.of)).map (·.1) = (Es ++ Us).map (·.1) := by rw [List.map_map]; rfl
  have h0 : ∀ k, done.getD k false = true ↔ k ∈ D0 ∧ k < ops.size := fun k => by
    rw [hd]
    unfold doneAll
    rcases Nat.lt_or_ge k ops.size with h | h
    · simp [h]
    · have hn : ¬ k < ops.size := by omega
      simp [hn, h]
  have hno : ∀ k ∈ (Es ++ Us).map (·.1), ¬ done.getD k false = true := fun k hk h => ok.off k ((h0 k).1 h).1 (by rw [hII]; exact hk)
  have hu : undone ((Es ++ Us).map (·.1)) done = (Es ++ Us).length := by
    unfold undone
    rw [List.filter_eq_self.2 fun k hk => by have := hno k hk; simpa using this, List.length_map]
  have h := free_main ok (fun c a a' w e h => by cases a; cases a'; cases e; exact hQ c _ _ _ w h) hS (fun h => by rw [List.contains_iff_mem.2 h] at hj; cases hj) (fun vs => by rw [← hA vs, ← hds]; exact (fillD_eq base vs _ base).symm) steps looses cont (Es ++ Us).length done (fun _ => undef) base w0 hu (by rw [hd]; simp [doneAll]) (fun j hj e he => by
      rw [h0] at hj ⊢
      exact ⟨ok.base j hj.1 e he, Nat.lt_trans (ok.low j hj.2 e he) hj.2⟩) (fun j => ⟨fun h => .inl ((h0 j).1 h), fun h => by
        rcases h with h | h
        · exact (h0 j).2 h
        · exact h.2⟩)
    ⟨rfl, rfl, fun k hk h => absurd h (hno k hk), fun _ _ => rfl⟩ (fun x hx h => absurd h (hno x.1 (List.mem_map.2 ⟨x, hx, rfl⟩))) (Fr.refl _ _)
  rwa [hm] at h
end
/-- Two new variables, whichever is laid first. -/
theorem wpTill.twoNew {P : Program} {md : Region.Mode} {ops : Array Oper} {Q : Exit → Act → World → Prop} {S : World → Prop} {j : Nat} (i k : Nat) {o p : Oper} (zi zk : Obj) {n : Nat} {done : Array Bool} {a : Act} {w : World} (hi : ops[i]? = some o) (hk : ops[k]? = some p)
    (hr : Region.ready md ops done = [i, k]) (hr1 : Region.ready md ops (done.setIfInBounds i true) = [k]) (hr2 : Region.ready md ops (done.setIfInBounds k true) = [i]) (go : o.guard = none) (gp : p.guard = none) (hik : i ≠ k) (hd : ∀ d, p.dst = some d → o.dst ≠ some d)
    (ro : ∀ (a : Act) (u : World), (execOp a.eval o).run P u = .ok (.value (.pointer (some ⟨u.heap.size, 0, none⟩))) (u.alloc zi)) (rp : ∀ (a : Act) (u : World), (execOp a.eval p).run P u = .ok (.value (.pointer (some ⟨u.heap.size, 0, none⟩))) (u.alloc zk))
    (hS : ∀ u, Fr (fun k => k < w.heap.size) w u → S u)
    (H : ∀ b c U, b ≠ c → w.heap.size ≤ b → w.heap.size ≤ c → U.heap[b]? = some zi → U.heap[c]? = some zk → Fr (fun k => k < w.heap.size) w U →
      wpTill P md ops Q S j n ((done.setIfInBounds i true).setIfInBounds k true) ((a.put o.dst (.pointer (some ⟨b, 0, none⟩))).put p.dst (.pointer (some ⟨c, 0, none⟩))) U) : wpTill P md ops Q S j (n + 2) done a w := by
  have wo : ∀ f, Region.wanted o f = true := fun f => by unfold Region.wanted; rw [go]
  have wp : ∀ f, Region.wanted p f = true := fun f => by unfold Region.wanted; rw [gp]
  have F0 := Fr.refl (fun k => k < w.heap.size) w
  refine wpTill.either i k hi hk hr (wo _) (wp _) (fun K hK => ?_) (fun K hK => ?_)
  · unfold Oper.wp
    rw [ro a w]
    refine hK _ _ (fun _ => hS _ (F0.alloc _)) (wpTill.next k hk hr1 (wp _) fun K' hK' => ?_)
    unfold Oper.wp
    rw [rp]
    refine hK' _ _ (fun _ => hS _ ((F0.alloc _).alloc _)) ?_
    refine H _ _ _ ?_ (Nat.le_refl _) ?_ ((Below.heap_alloc _ _ _ (by simp)).trans (heap_alloc_new w _)) (heap_alloc_new _ _) ((F0.alloc _).alloc _)
    · simp
    · simp
  · unfold Oper.wp
    rw [rp a w]
    refine hK _ _ (fun _ => hS _ (F0.alloc _)) (wpTill.next i hi hr2 (wo _) fun K' hK' => ?_)
    unfold Oper.wp
    rw [ro]
    refine hK' _ _ (fun _ => hS _ ((F0.alloc _).alloc _)) ?_
    have h := H (w.alloc zk).heap.size w.heap.size _ (by simp) (by simp) (Nat.le_refl _) (heap_alloc_new _ _) ((Below.heap_alloc _ _ _ (by simp)).trans (heap_alloc_new w _)) ((F0.alloc zk).alloc zi)
    rw [Array.setIfInBounds_comm _ _ hik, Act.put_comm _ _ _ (fun d hd' he => hd d he hd')] at h
    exact h
end Go.Proofs.YtlppcfeimpcbjaaGreat

import Derived.Test.YtlppcfeimpcbjaaGreatFacts
set_option linter.unusedSimpArgs false
set_option linter.unusedVariables false

/- A region that draws its order, as XFree has it; the blocks of its new variables are told apart. -/
namespace Go.Proofs.YtlppcfeimpcbjaaGreat
open Go.RowKit

/-- An operation that lays a new variable. -/
def NewAt (P : Program) (ops : Array Oper) (Z : Nat → Obj) (i : Nat) : Prop := ∃ o, ops[i]? = some o ∧ o.guard = none ∧ ∀ (a : Act) (u : World), (execOp a.eval o).run P u = .ok (.value (.pointer (some ⟨u.heap.size, 0, none⟩))) (u.alloc (Z i))
/-- Of those that are done, each has a block of its own. -/
def ApartN (N : List Nat) (d : Nat → Prop) (vs : Nat → Value) (w : World) : Prop :=
  (∀ i ∈ N, d i → ∃ b, vs i = .pointer (some ⟨b, 0, none⟩) ∧ b < w.heap.size) ∧ ∀ i ∈ N, ∀ j ∈ N, i ≠ j → d i → d j → vs i ≠ vs j
theorem ApartN.mono {N : List Nat} {d e : Nat → Prop} {vs : Nat → Value} {w : World} (h : ApartN N d vs w) (hd : ∀ i, e i → d i) : ApartN N e vs w :=
  ⟨fun i hi he => h.1 i hi (hd i he), fun i hi j hj hne he he' => h.2 i hi j hj hne (hd i he) (hd j he')⟩
theorem ApartN.none {N : List Nat} {d : Nat → Prop} {vs : Nat → Value} {w : World} (hd : ∀ i ∈ N, ¬ d i) : ApartN N d vs w :=
  ⟨fun i hi h => absurd h (hd i hi), fun i hi _ _ _ h => absurd h (hd i hi)⟩
theorem ApartN.step {N : List Nat} {d : Nat → Prop} {vs : Nat → Value} {w u : World} {x : Nat} {v : Value} (h : ApartN N d vs w) (hf : Fr (fun k => k < w.heap.size) w u) (hv : x ∈ N → v = .pointer (some ⟨w.heap.size, 0, Option.none⟩) ∧ w.heap.size < u.heap.size) : ApartN N (fun i => d i ∨ i = x) (fun j => if j = x then v else vs j) u := by
  have hs := hf.size
  have key : ∀ i ∈ N, i ≠ x → d i → ∀ y ∈ N, y = x → vs i ≠ v := fun i hi hne hd y hy e he => by
    subst e
    obtain ⟨b, e1, h1⟩ := h.1 i hi hd
    rw [he, (hv hy).1] at e1
    cases e1
    omega
  refine ⟨fun i hi hd => ?_, fun i hi j hj hne hdi hdj => ?_⟩
  · by_cases e : i = x
    · subst e
      simp only [if_true]
      exact ⟨_, (hv hi).1, (hv hi).2⟩
    · simp only [e, if_false]
      obtain ⟨b, e1, h1⟩ := h.1 i hi (hd.resolve_right e)
      exact ⟨b, e1, by omega⟩
  · by_cases e : i = x
    · have e' : j ≠ x := fun e2 => hne (e.trans e2.symm)
      simp only [e, e', if_true, if_false]
      exact fun he => key j hj e' (hdj.resolve_right e') i hi e he.symm
    · by_cases e' : j = x
      · simp only [e, e', if_true, if_false]
        exact key i hi e (hdi.resolve_right e) j hj e'
      · simp only [e, e', if_false]
        exact h.2 i hi j hj hne (hdi.resolve_right e) (hdj.resolve_right e')
def newsOk (N : List Nat) (Z : Nat → Obj) (w0 : World) : List (Nat × Fact) → Prop
  | [] => True
  | (i, F) :: l => (i ∈ N → ∀ (vs : Nat → Value) (w : World), Fr (fun k => k < w0.heap.size) w0 w → F.is (.pointer (some ⟨w.heap.size, 0, none⟩) :: F.of.map vs) (w.alloc (Z i))) ∧ newsOk N Z w0 l
theorem newsOk_mem {N : List Nat} {Z : Nat → Obj} {w0 : World} : ∀ {l : List (Nat × Fact)}, newsOk N Z w0 l → ∀ x ∈ l, x.1 ∈ N → ∀ (vs : Nat → Value) (w : World), Fr (fun k => k < w0.heap.size) w0 w → x.2.is (.pointer (some ⟨w.heap.size, 0, none⟩) :: x.2.of.map vs) (w.alloc (Z x.1))
  | [], _, x, hx => by cases hx
  | (i, F) :: l, h, x, hx => by
    rcases List.mem_cons.1 hx with rfl | hx
    · exact h.1
    · exact newsOk_mem h.2 x hx
theorem wp_new {P : Program} {ops : Array Oper} {Q : Exit → Act → World → Prop} {A : Act} {N : List Nat} {Z : Nat → Obj} {i : Nat} {w : World} {o : Oper} {G : Value → World → Prop} (hN : i ∈ N → NewAt P ops Z i) (hG : i ∈ N → G (.pointer (some ⟨w.heap.size, 0, none⟩)) (w.alloc (Z i))) (ho : ops[i]? = some o)
    (hs : ∀ K : Act → World → Prop, (∀ v u, Fr (fun k => k < w.heap.size) w u → G v u → K (A.put o.dst v) u) → o.wp P A w K Q) :
    o.wp P A w (fun b u => ∃ v, b = A.put o.dst v ∧ Fr (fun k => k < w.heap.size) w u ∧ G v u ∧ (i ∈ N → v = .pointer (some ⟨w.heap.size, 0, none⟩) ∧ w.heap.size < u.heap.size)) Q := by
  by_cases hi : i ∈ N
  · obtain ⟨o', ho', hg, hr⟩ := hN hi
    cases ho.symm.trans ho'
    unfold Oper.wp
    rw [hr A w]
    exact ⟨_, rfl, (Fr.refl _ w).alloc _, hG hi, fun _ => ⟨rfl, by simp⟩⟩
  · exact hs _ fun v u hf hg => ⟨v, rfl, hf, hg, fun h => absurd h hi⟩

section
variable {P : Program} {md : Region.Mode} {ops : Array Oper} {Q : Exit → Act → World → Prop} {Es Us : List (Nat × Fact)} {T : List Nat} {base : Act} {w0 : World} {m : Nat} {A : (Nat → Value) → Act} {S : World → Prop} {jj : Nat} {D0 N : List Nat} {Z : Nat → Obj}

theorem free_main2 (ok : FreeOk md ops D0 ((Es ++ Us).map fun e => (e.1, e.2.of)) (Us.map (·.1)) T) (hQ : ∀ c a a' w, a.defers = a'.defers → Q (.panic c) a w → Q (.panic c) a' w) (hS : ∀ u, Fr (fun k => k < w0.heap.size) w0 u → S u) (hj : jj ∉ Us.map (·.1)) (hA : ∀ vs, filled ops ((Es ++ Us).map (·.1)) base vs = A vs)
    (hN : ∀ i ∈ N, NewAt P ops Z i) (hNG : newsOk N Z w0 Es) (hNU : ∀ i ∈ N, i ∉ Us.map (·.1)) (steps : stepsOk P ops Q (Es ++ Us) T A w0 Es) (looses : loosesOk P ops (Es ++ Us) T A w0 Us) (cont : ∀ vs w, factsAll vs w (Es ++ Us) → ApartN N (fun i => i ∈ (Es ++ Us).map (·.1)) vs w → Fr (fun k => k < w0.heap.size) w0 w → wpTill P md ops Q S jj m (doneAll ops.size (D0 ++ (Es ++ Us).map (·.1))) (A vs) w) :
    ∀ (n : Nat) (done : Array Bool) (vs : Nat → Value) (a : Act) (w : World), undone ((Es ++ Us).map (·.1)) done = n → done.size = ops.size → Shut md ops done → (∀ j, done.getD j false = true ↔ j ∈ D0 ∧ j < ops.size ∨ j ∈ (Es ++ Us).map (·.1) ∧ done.getD j false = true) →
      Fill ops ((Es ++ Us).map (·.1)) base vs (fun k => done.getD k false = true) a → (∀ x ∈ Es ++ Us, done.getD x.1 false = true → x.2.at x.1 vs w) → ApartN N (fun i => done.getD i false = true) vs w → Fr (fun k => k < w0.heap.size) w0 w → wpTill P md ops Q S jj (m + n) done a w := by
  obtain ⟨All, hAll⟩ : ∃ All, All = Es ++ Us := ⟨_, rfl⟩
  have hEs : ∀ x ∈ Es, x ∈ All := fun x hx => by rw [hAll]; exact List.mem_append_left _ hx
  have hUs : ∀ x ∈ Us, x ∈ All := fun x hx => by rw [hAll]; exact List.mem_append_right _ hx
  have hEU : ∀ x ∈ All, x ∈ Es ∨ x ∈ Us := fun x hx => by rw [hAll] at hx; exact List.mem_append.1 hx
  have smem := fun x hx => stepsOk_mem steps x hx
  have lmem := fun x hx => loosesOk_mem looses x hx
  rw [← hAll] at ok hA cont smem lmem ⊢
  have hII : (All.map fun e => (e.1, e.2.of)).map (·.1) = All.map (·.1) := by rw [List.map_map]; rfl
  have hnd : (All.map (·.1)).Nodup := hII ▸ ok.nodup
  have hone : ∀ x ∈ All, ∀ y ∈ All, x.1 = y.1 → x = y := fun x hx y hy he => by
    exact nodup_one hnd hx hy he
  have hap : ∀ i ∈ All.map (·.1), ∀ k ∈ All.map (·.1), k ≠ i → ∀ t, dstOf ops k = some t → dstOf ops i ≠ some t := by
    intro i hi k hk hne t ht
    obtain ⟨x, hx, rfl⟩ := List.mem_map.1 hi
    obtain ⟨y, hy, rfl⟩ := List.mem_map.1 hk
    exact ok.apart (y.1, y.2.of) (List.mem_map.2 ⟨y, hy, rfl⟩) (x.1, x.2.of) (List.mem_map.2 ⟨x, hx, rfl⟩) hne t ht
  have hlt : ∀ i ∈ All.map (·.1), i < ops.size := fun i hi => by
    obtain ⟨x, hx, rfl⟩ := List.mem_map.1 hi
    exact ok.lt (x.1, x.2.of) (List.mem_map.2 ⟨x, hx, rfl⟩)
  intro n
  induction n with
  | zero =>
    intro done vs a w hn hsz hsh hsub hfill hfacts hap2 hfr
    have hall := undone_zero hn
    have e1 : a = A vs := (hfill.same (Fill.full hap hnd) fun k hk => ⟨hall k hk, hk⟩).trans (hA vs)
    have e2 : done = doneAll ops.size (D0 ++ All.map (·.1)) := by
      refine Array.ext_getElem? fun j => ?_
      unfold doneAll
      rcases Nat.lt_or_ge j ops.size with hj | hj
      · have hj' : j < done.size := by omega
        rw [Array.getElem?_eq_getElem hj']
        have : done[j] = (D0 ++ All.map (·.1)).contains j := by
          rw [Bool.eq_iff_iff, List.contains_iff_mem, List.mem_append]
          have hd : done[j] = true ↔ done.getD j false = true := by simp [hj']
          rw [hd]
          constructor
          · intro h
            rcases (hsub j).1 h with h | h
            · exact .inl h.1
            · exact .inr h.1
          · rintro (h | h)
            · exact (hsub j).2 (.inl ⟨h, hj⟩)
            · exact hall j h
        rw [this]
        simp [hj]
      · rw [Array.getElem?_eq_none (by omega)]
        simp [hj]
    subst e1 e2
    exact cont vs w (factsAll_of fun x hx => hfacts x hx (hall _ (List.mem_map.2 ⟨x, hx, rfl⟩))) (hap2.mono fun i hi => hall i hi) hfr
  | succ n ih =>
    intro done vs a w hn hsz hsh hsub hfill hfacts hap2 hfr
    have hfull := Fill.full (base := base) (vs := vs) hap hnd
    rw [hA vs] at hfull
    have hsize : a.tmps.size = (A vs).tmps.size := hfill.size.trans hfull.size.symm
    -- what an operation looks at lies in its place
    have hsee : ∀ x ∈ All, (∀ e ∈ afters md ops x.1, done.getD e false = true) → ∀ o, ops[x.1]? = some o → execOp a.eval o = execOp (A vs).eval o ∧ Region.wanted o (yielded ops a.tmps) = Region.wanted o (yielded ops (A vs).tmps) := by
      intro x hx hia o ho
      have hxD : (x.1, x.2.of) ∈ All.map (fun e => (e.1, e.2.of)) := List.mem_map.2 ⟨x, hx, rfl⟩
      have hanc := anc_done ok hsh x.1 (ok.lt _ hxD) hia
      have hlook : ∀ t, t ∈ o.looksAt ops → a.tmps[t]? = (A vs).tmps[t]? := fun t ht => hfill.get hfull fun k hk hkt => by
        obtain ⟨y, hy, rfl⟩ := List.mem_map.1 hk
        exact ⟨hanc _ (ok.sees _ hxD (y.1, y.2.of) (List.mem_map.2 ⟨y, hy, rfl⟩) t hkt (by unfold looks; rw [ho]; exact ht)), hk⟩
      refine ⟨execOp_congr o (fun cs b => Region.noSelect_spec ok.sel x.1 o cs b ho) fun z hz => ?_, ?_⟩
      · cases z with
        | tmp t =>
          have := hlook t (List.mem_append_left _ (List.mem_filterMap.2 ⟨.tmp t, by simpa using hz, rfl⟩))
          simp only [Act.eval, Array.getD_eq_getD_getElem?, this]
        | _ => rfl
      · unfold Region.wanted
        cases hg : o.guard with
        | none => rfl
        | some gw =>
          obtain ⟨g, want⟩ := gw
          have hy : yielded ops a.tmps g = yielded ops (A vs).tmps g := by
            unfold yielded
            cases ht : (ops[g]?).bind (·.dst) with
            | none => rfl
            | some t =>
              have := hlook t (by simp [Oper.looksAt, hg, ht])
              rw [Option.bind_some, Option.bind_some, this]
          simp only [hy]
    -- what comes behind
    have next : ∀ x ∈ All, done.getD x.1 true = false → (∀ e ∈ afters md ops x.1, done.getD e false = true) → ∀ o, ops[x.1]? = some o → ∀ v u, Fr (fun k => k < w.heap.size) w u → x.2.is (v :: x.2.of.map vs) u → (x.1 ∈ N → v = .pointer (some ⟨w.heap.size, 0, none⟩) ∧ w.heap.size < u.heap.size) → wpTill P md ops Q S jj (m + n) (done.setIfInBounds x.1 true) (a.put o.dst v) u := by
      intro x hx hui hia o ho v u hf hg hnv
      have hxD : (x.1, x.2.of) ∈ All.map (fun e => (e.1, e.2.of)) := List.mem_map.2 ⟨x, hx, rfl⟩
      have hxI : x.1 ∈ All.map (·.1) := List.mem_map.2 ⟨x, hx, rfl⟩
      have his := ok.lt _ hxD
      have hanc := anc_done ok hsh x.1 his hia
      have hud := getD_tf hui
      have hds : x.1 < done.size := by rw [hsz]; exact his
      have hdst : dstOf ops x.1 = o.dst := by unfold dstOf; rw [ho]; rfl
      have hr : x.1 ∈ Region.ready md ops done := ready_iff.2 ⟨hui, his, hia⟩
      have hvs : ∀ k, done.getD k false = true → (fun j => if j = x.1 then v else vs j) k = vs k := fun k hk => by
        have : k ≠ x.1 := fun e => by rw [e, hud] at hk; cases hk
        simp only [this, if_false]
      have hof : ∀ y ∈ All, (done.setIfInBounds x.1 true).getD y.1 false = true → ∀ j ∈ y.2.of, (fun j => if j = x.1 then v else vs j) j = vs j := fun y hy hd j hj => by
        have hyD : (y.1, y.2.of) ∈ All.map (fun e => (e.1, e.2.of)) := List.mem_map.2 ⟨y, hy, rfl⟩
        have hb := ok.deps _ hyD j hj
        refine hvs j ?_
        rcases (getD_set hds).1 hd with hd | he
        · exact anc_done ok hsh y.1 (ok.lt _ hyD) (hsh _ hd) j hb
        · rw [show (y.1, y.2.of).1 = x.1 from he] at hb
          exact hanc j hb
      refine ih _ (fun j => if j = x.1 then v else vs j) _ u ?_ (by simp [hsz]) (hsh.set hds hr) (fun j => ?_) ?_ (fun y hy hd => ?_) ((hap2.step (x := x.1) (v := v) hf hnv).mono fun k hk => (getD_set hds).1 hk) (hfr.comp hf fun k hk hk' => ⟨hk', Nat.lt_of_lt_of_le hk' hfr.size⟩)
      · have := undone_set hds hud hnd hxI
        omega
      · rw [getD_set hds]
        constructor
        · rintro (h | rfl)
          · rcases (hsub j).1 h with h | h
            · exact .inl h
            · exact .inr ⟨h.1, .inl h.2⟩
          · exact .inr ⟨hxI, .inr rfl⟩
        · rintro (h | h)
          · exact .inl ((hsub j).2 (.inl h))
          · exact h.2
      · have h9 := hfill.put (vs' := fun j => if j = x.1 then v else vs j) (d' := fun k => (done.setIfInBounds x.1 true).getD k false = true) hxI (by simp [hud]) hvs (fun k => getD_set hds) (hap _ hxI)
        rw [hdst] at h9
        simpa using h9
      · have hmap : y.2.of.map (fun j => if j = x.1 then v else vs j) = y.2.of.map vs := List.map_congr_left fun j hj => hof y hy hd j hj
        unfold Fact.at
        rw [hmap]
        by_cases he : y.1 = x.1
        · have hxy : y = x := hone y hy x hx he
          subst hxy
          simpa using hg
        · have hd' : done.getD y.1 false = true := ((getD_set hds).1 hd).resolve_right he
          simp only [he, if_false]
          exact y.2.keep hf (hfacts y hy hd')
    have hifs : ∀ x ∈ All, (∀ e ∈ afters md ops x.1, done.getD e false = true) → factsIf (T.getD x.1 0) vs w All := fun x hx hia =>
      factsIf_of fun y hy hm => hfacts y hy (anc_done ok hsh x.1 (hlt _ (List.mem_map.2 ⟨x, hx, rfl⟩)) hia _ hm)
    by_cases hU : ∃ x ∈ Us, done.getD x.1 false = false ∧ ∀ e ∈ afters md ops x.1, done.getD e false = true
    · obtain ⟨x, hx, hud, hia⟩ := hU
      have hxA := hUs x hx
      have hxI : x.1 ∈ All.map (·.1) := List.mem_map.2 ⟨x, hxA, rfl⟩
      have hui := getD_ft (by rw [hsz]; exact hlt _ hxI) hud
      obtain ⟨o, v, ho, hy, hg⟩ := lmem x hx vs w (hifs x hxA hia) hfr
      obtain ⟨h1, h2⟩ := hsee x hxA hia o ho
      have hr : x.1 ∈ Region.ready md ops done := ready_iff.2 ⟨hui, hlt _ hxI, hia⟩
      refine wpTill.loose ho ok.sel (fun e => hj (by rw [← e]; exact List.mem_map.2 ⟨x, hx, rfl⟩)) (fun c a w => hQ c _ _ w (Act.put_defs _ _ _)) (m + n) done a w (fun j p hp hne hun hno => ?_) hr (hy.of_same h1 h2) (fun _ => hS w hfr) (next x hxA hui hia o ho v w (Fr.refl _ _) hg fun h => absurd (List.mem_map.2 ⟨x, hx, rfl⟩) (hNU _ h))
      rcases ok.loose x.1 (List.mem_map.2 ⟨x, hx, rfl⟩) o ho j p hp hne with h | h | h
      · obtain ⟨e, he, hb, hon⟩ := (mem_afters hp).1 h
        exact absurd hon (hno e he hb)
      · have := anc_done ok hsh x.1 (hlt _ hxI) hia j h
        rw [getD_tf hun] at this
        cases this
      · exact h
    · have eager : ∀ x ∈ Us, (∀ e ∈ afters md ops x.1, done.getD e false = true) → done.getD x.1 false = true := fun x hx hia => by
        cases hd : done.getD x.1 false with
        | true => rfl
        | false => exact absurd ⟨x, hx, hd, hia⟩ hU
      obtain ⟨i0, hi0, hu0⟩ := undone_pos (I := All.map (·.1)) (done := done) (by omega)
      refine ⟨fun h0 => ?_, fun i hr => ?_⟩
      · exfalso
        have : ∀ i, i ∈ All.map (·.1) → done.getD i false = false → ∃ k, k ∈ Region.ready md ops done := by
          intro i
          induction i using Nat.strongRecOn with
          | _ i ih2 =>
            intro hi hu
            by_cases hall : ∀ e ∈ afters md ops i, done.getD e false = true
            · exact ⟨i, ready_iff.2 ⟨getD_ft (by rw [hsz]; exact hlt i hi) hu, hlt i hi, hall⟩⟩
            · obtain ⟨e, he⟩ := Classical.not_forall.1 hall
              obtain ⟨he1, he2⟩ := Classical.not_imp.1 he
              obtain ⟨x, hx, rfl⟩ := List.mem_map.1 hi
              have h3 := ok.shut (x.1, x.2.of) (List.mem_map.2 ⟨x, hx, rfl⟩) e he1
              rw [hII] at h3
              rcases h3 with h3 | h3
              · exact ih2 e (ok.low _ (hlt _ hi) e he1) h3 (by simpa using he2)
              · exact absurd ((hsub e).2 (.inl ⟨h3, Nat.lt_trans (ok.low _ (hlt _ hi) e he1) (hlt _ hi)⟩)) he2
        obtain ⟨k, hk⟩ := this i0 hi0 hu0
        rw [h0] at hk
        cases hk
      · obtain ⟨hui, his, hia⟩ := ready_iff.1 hr
        have hanc := anc_done ok hsh i his hia
        have hiI : i ∈ All.map (·.1) := by
          by_cases h : i ∈ All.map (·.1)
          · exact h
          · exfalso
            obtain ⟨y, hy, rfl⟩ := List.mem_map.1 hi0
            have hd : done.getD y.1 false = true := by
              rcases ok.tail i his (by rw [hII]; exact h) (fun h0 => by have := (hsub i).2 (.inl ⟨h0, his⟩); rw [getD_tf hui] at this; cases this) (y.1, y.2.of) (List.mem_map.2 ⟨y, hy, rfl⟩) with h3 | ⟨h3, h4⟩
              · exact hanc _ h3
              · obtain ⟨z, hz, hzy⟩ := List.mem_map.1 h3
                have hzy : z.1 = y.1 := hzy
                have := eager z hz fun e he => hanc e (h4 e (by rw [hzy] at he; exact he))
                rwa [hzy] at this
            rw [hu0] at hd
            cases hd
        obtain ⟨x, hx, rfl⟩ := List.mem_map.1 hiI
        have hxE : x ∈ Es := by
          rcases hEU x hx with h | h
          · exact h
          · have := eager x h hia
            rw [getD_tf hui] at this
            cases this
        obtain ⟨o, ho, hstep⟩ := smem x hxE vs w (hifs x hx hia) hfr
        obtain ⟨hex, hwn⟩ := hsee x hx hia o ho
        unfold wpOp
        simp only [ho, hwn]
        rcases hstep with ⟨hw, hs⟩ | ⟨hw, hg⟩
        · simp only [hw, if_true]
          refine .inl (Oper.wp_mono ?_ (wp_fill hex (fun c u => hQ c _ _ u (hfull.defers.trans hfill.defers.symm)) hsize (G := fun v u => Fr (fun k => k < w.heap.size) w u ∧ x.2.is (v :: x.2.of.map vs) u ∧ (x.1 ∈ N → v = .pointer (some ⟨w.heap.size, 0, none⟩) ∧ w.heap.size < u.heap.size)) (wp_new (hN x.1) (fun h => newsOk_mem hNG x hxE h vs w hfr) ho hs)))
          rintro b u ⟨v, rfl, hf, hg, hnv⟩
          exact ⟨fun _ => hS u (hfr.comp hf fun k hk hk' => ⟨hk', Nat.lt_of_lt_of_le hk' hfr.size⟩), next x hx hui hia o ho v u hf hg hnv⟩
        · simp only [hw, Bool.false_eq_true, if_false]
          exact ⟨fun _ => hS w hfr, next x hx hui hia o ho undef w (Fr.refl _ _) hg fun h => by
            obtain ⟨o', ho', hg', _⟩ := hN _ h
            cases ho.symm.trans ho'
            unfold Region.wanted at hw
            rw [hg'] at hw
            cases hw⟩


/-- The free operations come up, in whatever order; the last ones are left. -/
theorem wpTill.free2 (Es Us : List (Nat × Fact)) (T : List Nat) (D0 : List Nat) (A : (Nat → Value) → Act) {done : Array Bool} (hd : done = doneAll ops.size D0) (hc : freeOk md ops D0 ((Es ++ Us).map fun e => (e.1, e.2.of)) (Us.map (·.1)) T = true) (hj : (Us.map (·.1)).contains jj = false) (ds : List (Nat × Option Tmp)) (hds : ((Es ++ Us).map (·.1)).map (fun k => (k, dstOf ops k)) = ds) (hA : ∀ vs, fillD ds base vs = A vs)
    (hQ : ∀ c (t t' : Array Value) d w, Q (.panic c) ⟨t, d⟩ w → Q (.panic c) ⟨t', d⟩ w) (hS : ∀ u, Fr (fun k => k < w0.heap.size) w0 u → S u) {n : Nat} (hm : m + (Es ++ Us).length = n)
    (N : List Nat) (Z : Nat → Obj) (hN : ∀ i ∈ N, NewAt P ops Z i) (hNG : newsOk N Z w0 Es) (hNU : (N.all fun i => !(Us.map (·.1)).contains i && !D0.contains i) = true) (steps : stepsOk P ops Q (Es ++ Us) T A w0 Es) (looses : loosesOk P ops (Es ++ Us) T A w0 Us) (cont : ∀ vs w, factsAll vs w (Es ++ Us) → ApartN N (fun i => i ∈ (Es ++ Us).map (·.1)) vs w → Fr (fun k => k < w0.heap.size) w0 w → wpTill P md ops Q S jj m (doneAll ops.size (D0 ++ (Es ++ Us).map (·.1))) (A vs) w) :
    wpTill P md ops Q S jj n done base w0 := by
  have ok := freeOk_spec hc
  have hII : ((Es ++ Us).map fun e => (e.1, e.2.of)).map (·.1) = (Es ++ Us).map (·.1) := by rw [List.map_map]; rfl
  have h0 : ∀ k, done.getD k false = true ↔ k ∈ D0 ∧ k < ops.size := fun k => by
    rw [hd]
    unfold doneAll
    rcases Nat.lt_or_ge k ops.size with h | h
    · simp [h]
    · have hn : ¬ k < ops.size := by omega
      simp [hn, h]
  have hno : ∀ k ∈ (Es ++ Us).map (·.1), ¬ done.getD k false = true := fun k hk h => ok.off k ((h0 k).1 h).1 (by rw [hII]; exact hk)
  have hn9 : ∀ i ∈ N, i ∉ Us.map (·.1) ∧ i ∉ D0 := fun i hi => by
    have := List.all_eq_true.1 hNU i hi
    simp only [Bool.and_eq_true, Bool.not_eq_true'] at this
    exact ⟨fun h => (by rw [List.contains_iff_mem.2 h] at this; cases this.1), fun h => (by rw [List.contains_iff_mem.2 h] at this; cases this.2)⟩
  have hu : undone ((Es ++ Us).map (·.1)) done = (Es ++ Us).length := by
    unfold undone
    rw [List.filter_eq_self.2 fun k hk => by have := hno k hk; simpa using this, List.length_map]
  have h := free_main2 ok (fun c a a' w e h => by cases a; cases a'; cases e; exact hQ c _ _ _ w h) hS (fun h => by rw [List.contains_iff_mem.2 h] at hj; cases hj) (fun vs => by rw [← hA vs, ← hds]; exact (fillD_eq base vs _ base).symm) hN hNG (fun i hi h => (hn9 i hi).1 h) steps looses cont (Es ++ Us).length done (fun _ => undef) base w0 hu (by rw [hd]; simp [doneAll]) (fun j hj e he => by
      rw [h0] at hj ⊢
      exact ⟨ok.base j hj.1 e he, Nat.lt_trans (ok.low j hj.2 e he) hj.2⟩) (fun j => ⟨fun h => .inl ((h0 j).1 h), fun h => by
        rcases h with h | h
        · exact (h0 j).2 h
        · exact h.2⟩)
    ⟨rfl, rfl, fun k hk h => absurd h (hno k hk), fun _ _ => rfl⟩ (fun x hx h => absurd h (hno x.1 (List.mem_map.2 ⟨x, hx, rfl⟩))) (.none fun i hi h => (hn9 i hi).2 ((h0 i).1 h).1) (Fr.refl _ _)
  rwa [hm] at h
end
end Go.Proofs.YtlppcfeimpcbjaaGreat

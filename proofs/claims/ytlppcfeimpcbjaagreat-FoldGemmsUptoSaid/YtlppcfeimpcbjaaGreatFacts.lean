import Derived.Test.YtlppcfeimpcbjaaGreatFree
import Derived.Test.YtlppcfeimpcbjaaGreatTenUZ
set_option linter.unusedSimpArgs false
set_option linter.unusedVariables false

/- What operations of a free region yield: words for facts. -/
namespace Go.Proofs.YtlppcfeimpcbjaaGreat
open Go.RowKit

theorem wanted_by {ops : Array Oper} {A : Act} {o : Oper} {g : Nat} {b : Bool} {t : Tmp} (hg : o.guard = some (g, b)) (hd : dstOf ops g = some t) (ht : A.tmps[t]? = some (.bool b)) : Region.wanted o (yielded ops A.tmps) = true := by
  have hy : yielded ops A.tmps g = some b := by
    unfold yielded
    unfold dstOf at hd
    rw [hd, Option.bind_some, ht]
  unfold Region.wanted
  rw [hg]
  simp [hy]
/-- A rational, as the program has it, of limbs that are told. -/
def LimR (x : RatL) (u : World) (v : Value) : Prop := ∃ P i j Q m k, v = .agg #[.bool x.1, .slice P i j, .slice Q m k] ∧ Sl Lm (fun _ => True) u (.slice P i j) x.2.1 ∧ Sl Lm (fun _ => True) u (.slice Q m k) x.2.2
theorem LimR.keep {x : RatL} {v : Value} {u u' : World} (hf : Fr (fun k => k < u.heap.size) u u') (h : LimR x u v) : LimR x u' v := by
  obtain ⟨P, i, j, Q, m, k, e, h1, h2⟩ := h
  exact ⟨P, i, j, Q, m, k, e, h1.keep' Lm_pos hf, h2.keep' Lm_pos hf⟩
/-- A rational, as the document has it. -/
def RefG (q : Rat) (L : Nat) (u : World) (v : Value) : Prop := ∃ s P i j Q m k, v = .agg #[.bool s, .slice P i j, .slice Q m k] ∧ s = sg q ∧ RR (fun _ => True) u (.slice P i j) (.slice Q m k) q L
theorem RefG.keep {q : Rat} {L : Nat} {v : Value} {u u' : World} (hf : Fr (fun k => k < u.heap.size) u u') (h : RefG q L u v) : RefG q L u' v := by
  obtain ⟨s, P, i, j, Q, m, k, e, hs, h1⟩ := h
  exact ⟨s, P, i, j, Q, m, k, e, hs, h1.keep hf⟩
/-- A rational, as the program answers it. -/
def RatG (q : Rat) (L : Nat) (u : World) (v : Value) : Prop := ∃ s P i j Q m k, v = .agg #[.bool s, .slice P i j, .slice Q m k] ∧ s = sg q ∧ SV u (.slice P i j) (.slice Q m k) q L
theorem RatG.keep {q : Rat} {L : Nat} {v : Value} {u u' : World} (hf : Fr (fun k => k < u.heap.size) u u') (h : RatG q L u v) : RatG q L u' v := by
  obtain ⟨s, P, i, j, Q, m, k, e, hs, h1⟩ := h
  exact ⟨s, P, i, j, Q, m, k, e, hs, h1.keep hf⟩
/-- A tensor, as the document has it. -/
def RefT (sh : List Int) (qs : List Rat) (L : Nat) (u : World) (v : Value) : Prop := ∃ A n c B m k, v = .agg #[.slice A n c, .slice B m k] ∧ Sl Im (fun _ => True) u (.slice A n c) sh ∧ Sl (Rk L) (fun _ => True) u (.slice B m k) qs
theorem RefT.keep {sh : List Int} {qs : List Rat} {L : Nat} {v : Value} {u u' : World} (hf : Fr (fun k => k < u.heap.size) u u') (h : RefT sh qs L u v) : RefT sh qs L u' v := by
  obtain ⟨A, n, c, B, m, k, e, h1, h2⟩ := h
  exact ⟨A, n, c, B, m, k, e, h1.keep' Im_pos hf, h2.keep' (Rk_pos L) hf⟩
theorem RefT.of {S T : Nat → Prop} {sh : List Int} {qs : List Rat} {L : Nat} {u : World} {v1 v2 : Value} (h1 : Sl Im S u v1 sh) (h2 : Sl (Rk L) T u v2 qs) : RefT sh qs L u (.agg #[v1, v2]) := by
  obtain ⟨A, n, c, rfl⟩ := h1.form
  obtain ⟨B, m, k, rfl⟩ := h2.form
  exact ⟨_, _, _, _, _, _, rfl, h1.any, h2.any⟩
/-- A list of numbers. -/
def IntG (xs : List Int) (u : World) (v : Value) : Prop := ∃ A n c, v = .slice A n c ∧ Sl Im (fun _ => True) u (.slice A n c) xs
theorem IntG.keep {xs : List Int} {v : Value} {u u' : World} (hf : Fr (fun k => k < u.heap.size) u u') (h : IntG xs u v) : IntG xs u' v := by
  obtain ⟨A, n, c, e, h1⟩ := h
  exact ⟨A, n, c, e, h1.keep' Im_pos hf⟩
/-- A tensor and an error, as the program answers them. -/
def TenE (r : Int) (sh : List Int) (es : List RatL) (u : World) (v : Value) : Prop := ∃ A n c B m k, v = .tuple #[.agg #[.slice A n c, .slice B m k], .int .i64 r] ∧ (r ≠ 0 → Value.slice A n c = .slice none 0 0 ∧ Value.slice B m k = .slice none 0 0) ∧ (r = 0 → Sl Im (fun _ => True) u (.slice A n c) sh ∧ Sl Rm (fun _ => True) u (.slice B m k) es)
theorem TenE.keep {r : Int} {sh : List Int} {es : List RatL} {v : Value} {u u' : World} (hf : Fr (fun k => k < u.heap.size) u u') (h : TenE r sh es u v) : TenE r sh es u' v := by
  obtain ⟨A, n, c, B, m, k, e, h1, h2⟩ := h
  exact ⟨A, n, c, B, m, k, e, h1, fun h => ⟨(h2 h).1.keep' Im_pos hf, (h2 h).2.keep' Rm_pos hf⟩⟩
/-- A new variable of two cells. -/
def New2 (n : Nat) (t : TypeId) (x y : Value) (u : World) (v : Value) : Prop := ∃ b, v = .pointer (some ⟨b, 0, none⟩) ∧ n ≤ b ∧ Box2 u b t x y
theorem New2.keep {n : Nat} {t : TypeId} {x y v : Value} {u u' : World} (hf : Fr (fun k => k < u.heap.size) u u') (h : New2 n t x y u v) : New2 n t x y u' v := by
  obtain ⟨b, e, hb, h⟩ := h
  exact ⟨b, e, hb, h.keep hf⟩
def New3 (n : Nat) (t : TypeId) (x y z : Value) (u : World) (v : Value) : Prop := ∃ b, v = .pointer (some ⟨b, 0, none⟩) ∧ n ≤ b ∧ Box3 u b t x y z
theorem New3.keep {n : Nat} {t : TypeId} {x y z v : Value} {u u' : World} (hf : Fr (fun k => k < u.heap.size) u u') (h : New3 n t x y z u v) : New3 n t x y z u' v := by
  obtain ⟨b, e, hb, h⟩ := h
  exact ⟨b, e, hb, h.keep hf⟩
theorem box2_cell {w : World} {b : Nat} {t : TypeId} {a1 a2 : Option Addr} {n1 c1 n2 c2 : Nat} (hb : Box2 w b t (.slice a1 n1 c1) (.slice a2 n2 c2)) {ad : Addr} (hbl : ad.block = b) {v : Value} (h6 : w.cell? ad = some v) : ∃ A n c, v = .slice A n c := by
  obtain ⟨bb, off, sp⟩ := ad
  dsimp only at hbl
  subst hbl
  have hb' : w.heap[bb]? = some (.cells #[.slice a1 n1 c1, .slice a2 n2 c2] t (0, 0)) := hb
  unfold World.cell? at h6
  simp only [hb'] at h6
  by_cases hsp : sp.isSome
  · simp [hsp] at h6
  · simp only [hsp] at h6
    rcases off with _ | _ | off
    · simp at h6; exact ⟨_, _, _, h6.symm⟩
    · simp at h6; exact ⟨_, _, _, h6.symm⟩
    · simp at h6
/-- what starts with another kind of cell doesn't lie in a block of two slices -/
theorem Sl.notin2 {α : Type} {K : Kd α} {S : Nat → Prop} {w : World} {v : Value} {xs : List α} {b : Nat} {t : TypeId} {a1 a2 : Option Addr} {n1 c1 n2 c2 : Nat} (h0 : ∀ x cs, K.rd S w x cs → (∃ v, cs[0]? = some v ∧ ∀ A n c, v ≠ .slice A n c) ∧ K.rd (fun j => j ≠ b) w x cs) (h : Sl K S w v xs) (hb : Box2 w b t (.slice a1 n1 c1) (.slice a2 n2 c2)) : Sl K (fun j => j ≠ b) w v xs := by
  obtain ⟨A, c, e, h1, h2, h3, h4⟩ := h
  refine ⟨A, c, e, h1, h2, h3, fun hp => ?_⟩
  obtain ⟨ad, e1, hS, hr⟩ := h4 hp
  refine ⟨ad, e1, fun hbl => ?_, fun i x hx => ?_⟩
  · obtain ⟨cs, hcs, hc⟩ := hr 0 (xs[0]'(hp)) (List.getElem?_eq_getElem hp)
    obtain ⟨⟨u, hu, hn⟩, _⟩ := h0 _ _ hcs
    have h6 := hc 0 u hu
    simp only [Nat.zero_mul, Nat.add_zero] at h6
    rw [show ad.add 0 = ad from addr_zero ad] at h6
    obtain ⟨A', n', c', rfl⟩ := box2_cell hb hbl h6
    exact hn _ _ _ rfl
  · obtain ⟨cs, hcs, hc⟩ := hr i x hx
    exact ⟨cs, (h0 _ _ hcs).2, hc⟩
section
variable {S : Nat → Prop} {w w' : World} {v : Value} {b : Nat} {t : TypeId} {a1 a2 : Option Addr} {n1 c1 n2 c2 : Nat}
theorem Im_notin2 {xs : List Int} (h : Sl Im S w v xs) (hb : Box2 w b t (.slice a1 n1 c1) (.slice a2 n2 c2)) : Sl Im (fun j => j ≠ b) w v xs := Sl.notin2 (S := S) (fun x cs hc => ⟨⟨_, (congrArg (fun l : List Value => l[0]?) hc.1).trans rfl, by simp⟩, hc⟩) h hb
theorem Lm_notin2 {xs : List Nat} (h : Sl Lm S w v xs) (hb : Box2 w b t (.slice a1 n1 c1) (.slice a2 n2 c2)) : Sl Lm (fun j => j ≠ b) w v xs := Sl.notin2 (S := S) (fun x cs hc => ⟨⟨_, (congrArg (fun l : List Value => l[0]?) hc.1).trans rfl, by simp⟩, hc⟩) h hb
theorem Rm_notin2 {xs : List RatL} (h : Sl Rm S w v xs) (hb : Box2 w b t (.slice a1 n1 c1) (.slice a2 n2 c2)) : Sl Rm (fun j => j ≠ b) w v xs := Sl.notin2 (S := S) (fun x cs ⟨vn, vd, e, h1, h2⟩ => ⟨⟨_, (congrArg (fun l : List Value => l[0]?) e).trans rfl, by simp⟩, ⟨vn, vd, e, Lm_notin2 h1 hb, Lm_notin2 h2 hb⟩⟩) h hb
end
theorem fr_put2 (w : World) (b : Nat) (x y : Value) : Fr (fun k => k ≠ b) w ((w.setCell ⟨b, 0, none⟩ x).setCell ⟨b, 1, none⟩ y) := (fr_set1 w b 0 x).comp (fr_set1 _ b 1 y) fun _ _ h => ⟨h, h⟩
/-- A fact about a result and the memory. -/
abbrev Fact.mem (p : World → Value → Prop) (hk : ∀ {v : Value} {u u' : World}, Fr (fun k => k < u.heap.size) u u' → p u v → p u' v) : Fact := Fact.one (fun v u => p u v) (fun hf h => hk hf h)
/-- The two parts of a pair. -/
abbrev Fact.fst (j : Nat) : Fact := Fact.two j (fun v t => ∃ x y, t = .tuple #[x, y] ∧ v = x)
abbrev Fact.snd (j : Nat) : Fact := Fact.two j (fun v t => ∃ x y, t = .tuple #[x, y] ∧ v = y)
/-- The same value. -/
abbrev Fact.same (j : Nat) : Fact := Fact.two j (fun v t => v = t)

theorem stepAt.calls {P : Program} {ops : Array Oper} {Q : Exit → Act → World → Prop} {A : Act} {i : Nat} {w : World} {G : Value → World → Prop} {o : Oper} {f : FuncId} {args : Array Value} {R : Ending → World → Prop} (ho : ops[i]? = some o) (hw : Region.wanted o (yielded ops A.tmps) = true)
    (hr : (execOp A.eval o).run P w = .ok (.enter f args) w) (hc : Calls P f args w R) (h : ∀ e u, R e u → ∃ v, e = .returned v ∧ Fr (fun k => k < w.heap.size) w u ∧ G v u) : stepAt P ops Q A i w G := stepAt.call ho hw hr (hc.mono h)
/-- An append of a whole list to nothing. -/
theorem stepAt.append {P : Program} {ops : Array Oper} {Q : Exit → Act → World → Prop} {A : Act} {i : Nat} {w : World} {G : Value → World → Prop} {o : Oper} {t t' e e' : TypeId} {s x : Operand} {S : Nat → Prop} {xv : Value} {xs : List Int} (E : ElemT P Im t e 8) (ht' : P.underlying t' = some (.slice e')) (ho : ops[i]? = some o) (hw : Region.wanted o (yielded ops A.tmps) = true)
    (hop : o.op = .call { callee := .builtin .append, args := #[s, x], argTypes := #[t, t'] }) (hs : A.eval s = .slice none 0 0) (hx : A.eval x = xv) (h : Sl Im S w xv xs) (hl : xs.length ≤ 1099511627000) (hG : ∀ v u, IntG xs u v → G v u) : stepAt P ops Q A i w G := by
  refine ⟨o, ho, .inl ⟨hw, fun K hK => ?_⟩⟩
  obtain ⟨i0, z, hi, hz, hsize, hby, hzs⟩ := E.info
  obtain ⟨v', w', hrun, h1, h2, h3⟩ := run_push (P := P) Im E.pos t o.type e i0 z 8 E.under hi hz hsize hby hzs (Own.nil Im e (fun k => w.heap.size ≤ k) w) h (fun y cs h => Kd.int_any (S := S) h) (fun k hk => hk) (by simp; omega) (by simp; omega)
  have hrun' := (append_types (ty := o.type) E.under ht' (.slice none 0 0) xv w).trans hrun
  unfold Oper.wp
  simp [execOp, hop, resolve, invoke, builtin, hs, hx, hrun', Result.andThen]
  rw [List.nil_append] at h1
  obtain ⟨B, n, c, rfl⟩ := h1.form
  exact hK _ _ ((Fr.of_grown h2).mono fun k _ _ => by simp [Value.ownBlock]) (hG _ _ ⟨_, _, _, rfl, h1.sl.any⟩)
end Go.Proofs.YtlppcfeimpcbjaaGreat

import Derived.Test.YtjnojkfkhccgaaaGreatTenL

/- A drawn region in a round; what turns no cells leaves rows as they lie. -/
namespace Go.Proofs.YtjnojkfkhccgaaaGreat
open Go.RowKit

/-- What holds of an operation's outcome holds of it in a round, too. -/
theorem upon_in {P : Program} {o : Oper} {a : Act} {K : Act → World → Prop} {Q : Exit → Act → World → Prop} (l n : Nat) {r : Result Next} (h : o.upon P a K Q r) : o.uponIn (Fence.wide.inRound l) n P a K Q r := by
  cases r with
  | ok x w =>
    cases x with
    | value v => exact h
    | skip => exact h
    | defer d => exact h
    | enter f args => exact ⟨fun hd => by simp [Fence.wide] at hd, CallsIn.inRound l (callsIn_wide.2 h)⟩
    | row row args => exact ⟨fun hd => by simp [Fence.wide] at hd, fun c cs _ => let ⟨v, w', r, s⟩ := h c cs; ⟨v, w', r, (stepsIn_wide (P := P)).2 s⟩⟩
    | _ => exact h.elim
  | halt x w =>
    cases x with
    | panic v => exact h
    | _ => exact h.elim
theorem oper_in {P : Program} {o : Oper} {a : Act} {w : World} {K : Act → World → Prop} {Q : Exit → Act → World → Prop} (l n : Nat) (hd : ∀ c, o.op ≠ .defer c) (h : o.wp P a w K Q) : o.wpIn (Fence.wide.inRound l) n P a w K Q :=
  ⟨fun _ _ => trivial, by rw [Oper.semAt_eq _ _ _ hd]; exact upon_in l n h⟩
theorem wpOp_in {P : Program} {ops : Array Oper} {Q : Exit → Act → World → Prop} {i : Nat} {K : Act → World → Prop} {a : Act} {w : World} (l n : Nat) (hno : ¬ LetsOut Q) (hd : ∀ o, ops[i]? = some o → ∀ c, o.op ≠ .defer c) (h : wpOp P ops Q i K a w) : wpOpIn (Fence.wide.inRound l) n P ops Q i K a w := by
  unfold wpOp at h
  unfold wpOpIn
  cases ho : ops[i]? with
  | none => simpa [ho] using h
  | some o =>
    simp only [ho] at h ⊢
    split
    · rename_i hw
      simp only [hw, if_true] at h
      rcases h with h | h
      · exact oper_in l n (hd o ho) h
      · exact absurd h.2 hno
    · rename_i hw
      simp only [hw] at h
      exact ⟨fun _ _ => trivial, h⟩
theorem wpAny_in {P : Program} {md : Region.Mode} {ops : Array Oper} {Q : Exit → Act → World → Prop} (l n : Nat) (hno : ¬ LetsOut Q) (hd : ∀ (i : Nat) (o : Oper), ops[i]? = some o → ∀ c, o.op ≠ .defer c) : ∀ (m : Nat) (done : Array Bool) (a : Act) (w : World), wpAny P md ops Q m done a w → wpAnyIn (Fence.wide.inRound l) n P md ops Q m done a w
  | 0, _, _, _, h => h
  | m + 1, _, _, _, h => ⟨h.1, fun k hk => wpOp_in l n hno (hd k) (wpOp_mono (fun b u hb => wpAny_in l n hno hd m _ b u hb) (h.2 k hk))⟩
def noDefers (ops : Array Oper) : Bool := ops.all fun o => match o.op with | .defer _ => false | _ => true
theorem noDefers_spec {ops : Array Oper} (h : noDefers ops = true) : ∀ (i : Nat) (o : Oper), ops[i]? = some o → ∀ c, o.op ≠ .defer c := by
  intro i o ho c hc
  have := Array.all_eq_true_iff_forall_mem.1 h o (Array.mem_of_getElem? ho)
  rw [hc] at this
  cases this
theorem wpTill.beginIn {P : Program} {ops : Array Oper} {Q : Exit → Act → World → Prop} (S : World → Prop) (j : Nat) {id l n : Nat} {a : Act} {w : World} (hm : P.follows .mixedOrders = true) (hd : noDefers ops = true) (hno : ¬ LetsOut Q)
    (h : wpTill P .any ops Q S j ops.size (Array.replicate ops.size false) a w.drew) : (Code.region id ops true).wpIn (Fence.wide.inRound l) n P Q a w :=
  wpIn_region_any hm (wpAny_in l n hno (noDefers_spec hd) _ _ _ _ (h.any _ _ _ _))

/-- Block k holds cells. -/
def Cl (w : World) (k : Nat) : Prop := ∃ cs t f, w.heap[k]? = some (.cells cs t f)
theorem cl_of_cell {w : World} {a : Addr} {u : Value} (h : w.cell? a = some u) : Cl w a.block := by
  unfold World.cell? at h
  split at h
  · rename_i c t f hc; exact ⟨c, t, f, hc⟩
  · cases h
theorem Lm_cl {S : Nat → Prop} {w : World} {v : Value} {xs : List Nat} (h : Sl Lm S w v xs) : Sl Lm (fun k => S k ∧ Cl w k) w v xs := by
  obtain ⟨A, c, rfl, h1, h2, h3, h4⟩ := h
  refine ⟨A, c, rfl, h1, h2, h3, fun hl => ?_⟩
  obtain ⟨ad, rfl, hS, hc⟩ := h4 hl
  refine ⟨ad, rfl, ⟨hS, ?_⟩, hc⟩
  obtain ⟨cs, hr, hu⟩ := hc 0 xs[0] (List.getElem?_eq_getElem hl)
  obtain ⟨u, hu0⟩ := Kd.cells_size hr Lm_pos
  have := cl_of_cell (hu 0 u hu0)
  rwa [addr_block] at this
theorem Rm_cl {S : Nat → Prop} {w : World} {x : RatL} {cs : List Value} (h : Rm.rd S w x cs) : Rm.rd (fun k => S k ∧ Cl w k) w x cs := by
  obtain ⟨vn, vd, e, hn, hd⟩ := h
  exact ⟨vn, vd, e, Lm_cl hn, Lm_cl hd⟩
theorem own_block_cl {α : Type} {K : Kd α} {e : TypeId} {S : Nat → Prop} {w : World} {v : Value} {xs : List α} (h : Own K e S w v xs) {g : Nat} (hg : v.ownBlock = some g) : Cl w g := by
  obtain ⟨cells, h1, _, _⟩ := h
  rcases h1.2 with ⟨rfl, _⟩ | ⟨g', cap, cur, rfl, _, hgg, _⟩
  · simp [Value.ownBlock] at hg
  · simp [Value.ownBlock] at hg
    subst hg
    exact ⟨_, _, _, hgg⟩
theorem Own.cl {α : Type} {K : Kd α} {e : TypeId} {S : Nat → Prop} {w : World} {v : Value} {xs : List α} (hcl : ∀ T x cs, K.rd T w x cs → K.rd (fun k => T k ∧ Cl w k) w x cs) (h : Own K e S w v xs) : Own K e (fun k => S k ∧ Cl w k) w v xs := by
  have hb := fun g hg => own_block_cl h (g := g) hg
  obtain ⟨cells, h1, h2, h3⟩ := h
  exact ⟨cells, h1, fun g hg => ⟨h2 g hg, hb g hg⟩, fun i x hx => let ⟨cs, hr, hu⟩ := h3 i x hx; ⟨cs, K.mono (fun k hk => ⟨⟨hk.1.1, hk.2⟩, hk.1.2⟩) (hcl _ _ _ hr), hu⟩⟩
/-- A row lies as it lay, where a block that is no cells is turned. -/
theorem Own.turn {α : Type} {K : Kd α} {e : TypeId} {S : Nat → Prop} {w w' : World} {v : Value} {xs : List α} (hcl : ∀ T x cs, K.rd T w x cs → K.rd (fun k => T k ∧ Cl w k) w x cs) (h : Own K e S w v xs) {row : Option Nat} (hg : w.grownBy w' row) {B : Nat} (hr : ∀ r, row = some r → B ≤ r ∧ ∃ o : Obj, w.heap[r]? = some o ∧ o.isCells = false) : Own K e S w' v xs :=
  ((Own.cl hcl h).fr ((Fr.of_grown hg).mono fun k _ hk e => by
    obtain ⟨_, o, ho, hc⟩ := hr k e.symm
    obtain ⟨cs, t, f, hh⟩ := hk.2
    rw [hh] at ho
    cases ho
    cases hc)).mono fun _ hk => hk.1
theorem keeps_push {α : Type} {K : Kd α} {e : TypeId} {S : Nat → Prop} {w w' : World} {v : Value} {xs : List α} (B : Nat) (h : Own K e S w v xs) (hf : Fr (fun k => some k ≠ v.ownBlock) w w') : KeepsFrom B w w' :=
  ⟨hf.size, fun k o _ hk ho => hf.obj hk fun e => by
    obtain ⟨cs, t, f, hh⟩ := own_block_cl h e.symm
    rw [hh] at hk
    cases hk
    cases ho⟩
theorem keeps_cell (B : Nat) (w : World) (p : Addr) (u : Value) : KeepsFrom B w (w.setCell p u) := (KeepsOthers.setCell _ _ _).from B
end Go.Proofs.YtjnojkfkhccgaaaGreat

import Derived.Test.YtlknmoegngjpcaaGreatPtZ
set_option linter.unusedSimpArgs false
set_option linter.unusedVariables false

/- Worlds that differ by numbers and truth values alone; lists of tensors as loops see them; fluxionref07.Same of a tensor and its copy. -/
namespace Go.Proofs.YtlknmoegngjpcaaGreat
open Go.RowKit

/-- The same value, or two numbers of a kind, or two truth values. -/
def AlikeB (v v' : Value) : Prop := v' = v ∨ (∃ k x y, v = .int k x ∧ v' = .int k y) ∨ ∃ x y, v = .bool x ∧ v' = .bool y
theorem AlikeB.refl (v : Value) : AlikeB v v := .inl rfl
theorem AlikeB.trans {a b c : Value} (h : AlikeB a b) (k : AlikeB b c) : AlikeB a c := by
  rcases h with rfl | ⟨ki, x, y, rfl, rfl⟩ | ⟨x, y, rfl, rfl⟩
  · exact k
  · rcases k with rfl | ⟨ki', x', y', e, rfl⟩ | ⟨x', y', e, rfl⟩
    · exact .inr (.inl ⟨_, _, _, rfl, rfl⟩)
    · injection e with e1 e2
      subst e1
      exact .inr (.inl ⟨_, _, _, rfl, rfl⟩)
    · cases e
  · rcases k with rfl | ⟨ki', x', y', e, rfl⟩ | ⟨x', y', e, rfl⟩
    · exact .inr (.inr ⟨_, _, rfl, rfl⟩)
    · cases e
    · exact .inr (.inr ⟨_, _, rfl, rfl⟩)
structure MildB (S : Nat → Prop) (w w' : World) : Prop where
  fr : Fr (fun k => ¬ S k) w w'
  cell : ∀ a v, w.cell? a = some v → ∃ v', w'.cell? a = some v' ∧ AlikeB v v'
  free : ∀ a v, w.cell? a = some v → w.frozen? a = false → w'.frozen? a = false
theorem MildB.refl (S : Nat → Prop) (w : World) : MildB S w w := ⟨Fr.refl _ _, fun _ v h => ⟨v, h, .refl v⟩, fun _ _ _ h => h⟩
theorem MildB.trans {S : Nat → Prop} {a b c : World} (h : MildB S a b) (k : MildB S b c) : MildB S a c :=
  ⟨h.fr.trans k.fr, fun x v hv => by
    obtain ⟨v1, h1, a1⟩ := h.cell x v hv
    obtain ⟨v2, h2, a2⟩ := k.cell x v1 h1
    exact ⟨v2, h2, a1.trans a2⟩, fun x v hv hf => by
    obtain ⟨v1, h1, _⟩ := h.cell x v hv
    exact k.free x v1 h1 (h.free x v hv hf)⟩
theorem MildB.drew {S : Nat → Prop} {a b : World} (h : MildB S a b) : MildB S a b.drew := ⟨h.fr.drew, h.cell, h.free⟩
theorem MildB.put {S : Nat → Prop} {w : World} {p : Addr} {v v' : Value} (ha : AlikeB v v') (h : w.cell? p = some v) (hS : S p.block) : MildB S w (w.setCell p v') := by
  refine ⟨(Fr.refl _ _).setCell (fun _ hn => hn hS) _, fun a x hv => ?_, fun a x hv hf => ?_⟩
  · by_cases e : p = a
    · subst e
      rw [h] at hv
      cases hv
      exact ⟨_, World.cell?_setCell_same w p _ h, ha⟩
    · exact ⟨x, (World.cell?_setCell_other w p a _ e).trans hv, .refl x⟩
  · rw [frozen_set]; exact hf
theorem MildB.set {S : Nat → Prop} {w : World} {p : Addr} {k : IntKind} {x : Int} (y : Int) (h : w.cell? p = some (.int k x)) (hS : S p.block) : MildB S w (w.setCell p (.int k y)) := .put (.inr (.inl ⟨_, _, _, rfl, rfl⟩)) h hS
theorem MildB.setB {S : Nat → Prop} {w : World} {p : Addr} {x : Bool} (y : Bool) (h : w.cell? p = some (.bool x)) (hS : S p.block) : MildB S w (w.setCell p (.bool y)) := .put (.inr (.inr ⟨_, _, rfl, rfl⟩)) h hS
theorem MildB.of_fr {S : Nat → Prop} {w w' : World} (h : Fr (fun k => k < w.heap.size) w w') : MildB S w w' :=
  ⟨h.mono fun _ hi _ => hi, fun a v hv => ⟨v, h.cell hv (World.block_lt_of_cell? _ _ hv), .refl v⟩, fun a v hv hf => by
    have hb := h.block a.block (World.block_lt_of_cell? _ _ hv) (World.block_lt_of_cell? _ _ hv)
    unfold World.frozen? at hf ⊢
    rw [hb]
    exact hf⟩
theorem MildB.slice {S : Nat → Prop} {w w' : World} (h : MildB S w w') {a : Addr} {A : Option Addr} {n c : Nat} (hv : w.cell? a = some (.slice A n c)) : w'.cell? a = some (.slice A n c) := by
  obtain ⟨v', h1, rfl | ⟨k, x, y, e, _⟩ | ⟨x, y, e, _⟩⟩ := h.cell a _ hv
  · exact h1
  · cases e
  · cases e
theorem MildB.num {S : Nat → Prop} {w w' : World} (h : MildB S w w') {a : Addr} {k : IntKind} {z : Int} (hv : w.cell? a = some (.int k z)) : ∃ y, w'.cell? a = some (.int k y) := by
  obtain ⟨v', h1, rfl | ⟨k', x, y, e, rfl⟩ | ⟨x, y, e, _⟩⟩ := h.cell a _ hv
  · exact ⟨z, h1⟩
  · injection e with e1 e2
    subst e1
    exact ⟨y, h1⟩
  · cases e
theorem MildB.boo {S : Nat → Prop} {w w' : World} (h : MildB S w w') {a : Addr} {b : Bool} (hv : w.cell? a = some (.bool b)) : ∃ y, w'.cell? a = some (.bool y) := by
  obtain ⟨v', h1, rfl | ⟨k, x, y, e, _⟩ | ⟨x, y, e, rfl⟩⟩ := h.cell a _ hv
  · exact ⟨b, h1⟩
  · cases e
  · exact ⟨y, h1⟩
theorem NumS.mildb {k : IntKind} {S T : Nat → Prop} {w w' : World} {A : Option Addr} {n : Nat} (h : NumS k S w A n) (m : MildB T w w') : NumS k S w' A n := by
  refine ⟨h.1, fun hp => ?_⟩
  obtain ⟨ad, e, hS, hc⟩ := h.2 hp
  refine ⟨ad, e, hS, fun i hi => ?_⟩
  obtain ⟨z, h1, h2⟩ := hc i hi
  obtain ⟨y, hy⟩ := m.num h1
  exact ⟨y, hy, m.free _ _ h1 h2⟩
/-- A rational lies at an address that may be written to. -/
def RatW (S : Nat → Prop) (w : World) (b o : Nat) : Prop := ∃ s A n c B m d, S b ∧ w.frozen? ⟨b, o, none⟩ = false ∧ w.cell? ⟨b, o, none⟩ = some (.bool s) ∧ w.cell? ⟨b, o + 1, none⟩ = some (.slice A n c) ∧ w.cell? ⟨b, o + 2, none⟩ = some (.slice B m d) ∧ NumS .u32 S w A n ∧ NumS .u32 S w B m
theorem RatW.mild {S T : Nat → Prop} {w w' : World} {b o : Nat} (h : RatW S w b o) (m : MildB T w w') : RatW S w' b o := by
  obtain ⟨s, A, n, c, B, k, d, hS, hf, h1, h2, h3, h4, h5⟩ := h
  obtain ⟨y, hy⟩ := m.boo h1
  exact ⟨y, A, n, c, B, k, d, hS, m.free _ _ h1 hf, hy, m.slice h2, m.slice h3, h4.mildb m, h5.mildb m⟩
def RatsW (S : Nat → Prop) (w : World) (B : Option Addr) (m : Nat) : Prop := m ≤ 9223372036854775807 ∧ (0 < m → ∃ g, B = some ⟨g, 0, none⟩ ∧ ∀ j, j < m → RatW S w g (j * 3))
theorem RatsW.mild {S T : Nat → Prop} {w w' : World} {B : Option Addr} {m : Nat} (h : RatsW S w B m) (hm : MildB T w w') : RatsW S w' B m := by
  refine ⟨h.1, fun hp => ?_⟩
  obtain ⟨g, e, hc⟩ := h.2 hp
  exact ⟨g, e, fun j hj => (hc j hj).mild hm⟩
def TenW (S : Nat → Prop) (w : World) (b o : Nat) : Prop := ∃ A n c B m d, w.cell? ⟨b, o, none⟩ = some (.slice A n c) ∧ w.cell? ⟨b, o + 1, none⟩ = some (.slice B m d) ∧ NumS .i64 S w A n ∧ RatsW S w B m
theorem TenW.mild {S T : Nat → Prop} {w w' : World} {b o : Nat} (h : TenW S w b o) (m : MildB T w w') : TenW S w' b o := by
  obtain ⟨A, n, c, B, k, d, h1, h2, h3, h4⟩ := h
  exact ⟨A, n, c, B, k, d, m.slice h1, m.slice h2, h3.mildb m, h4.mild m⟩
theorem RatsW.of {e : TypeId} {S : Nat → Prop} {w : World} {B : Option Addr} {m d : Nat} {xs : List RatL} (h : Own RZ e S w (.slice B m d) xs) : RatsW S w B m := by
  have hz := h.fz
  have hin := h.in_
  obtain ⟨cells, h1, h2, h3⟩ := h
  obtain ⟨hlen, ⟨e0, hn⟩ | ⟨g, cap, cur, e0, hb, hg, hcap, hmax, hsz, htake⟩⟩ := h1
  · cases e0
    exact ⟨by omega, fun hp => by omega⟩
  · cases e0
    refine ⟨Nat.le_trans hcap hmax, fun hp => ⟨g, rfl, fun j hj => ?_⟩⟩
    obtain ⟨cs, hr, hu⟩ := h3 j xs[j] (List.getElem?_eq_getElem hj)
    obtain ⟨s, A, n, c, B, k, d, g1, g2, g3, g4, g5⟩ := RatP.of (S := S) (b := g) (o := j * 3) (RZ.mono (fun k hk => hk.1) hr) fun i u hi => by
      have hcu := hu i u hi
      rw [← htake, List.getElem?_take] at hcu
      split at hcu
      · rw [cell_of_row w g _ cur e (0, 0) hg]
        simpa [RZ] using hcu
      · cases hcu
    exact ⟨s, A, n, c, B, k, d, hin g rfl, Fz.free (hz g rfl), g1, g2, g3, g4, g5⟩
/-- An answered tensor of the call's own. -/
def OT (n0 : Nat) (sh : List Int) (es : List RatL) (u : World) (a b : Value) : Prop := Own Im 3 (fun k => n0 ≤ k) u a sh ∧ Own RZ 51 (fun k => n0 ≤ k) u b es
theorem OT.keep {n0 : Nat} {sh : List Int} {es : List RatL} {u u' : World} {a b : Value} (h : OT n0 sh es u a b) (hf : Fr (fun k => k < u.heap.size) u u') : OT n0 sh es u' a b := ⟨h.1.keep' hf, h.2.keep' hf⟩
theorem OT.hold {n0 : Nat} {sh : List Int} {es : List RatL} {u : World} {a b : Value} (h : OT n0 sh es u a b) : Hold (fun u => OT n0 sh es u a b) u := fun _ hu => h.keep hu
theorem OT.form {n0 : Nat} {sh : List Int} {es : List RatL} {u : World} {a b : Value} (h : OT n0 sh es u a b) : (∃ A n c, a = .slice A n c) ∧ ∃ A n c, b = .slice A n c := ⟨h.1.form, h.2.form⟩
theorem Own.off2 {α : Type} {K : Kd α} {e t : TypeId} (het : e ≠ t) {S : Nat → Prop} {w : World} {v x y : Value} {xs : List α} {g : Nat} (hK : ∀ T z cs, K.rd T w z cs → K.rd (fun k => T k ∧ k ≠ g) w z cs) (h : Own K e S w v xs) (hb : Box2 w g t x y) : Own K e (fun k => S k ∧ k ≠ g) w v xs := by
  obtain ⟨cells, h1, h2, h3⟩ := h
  refine ⟨cells, h1, fun k hk => ⟨h2 k hk, fun e1 => ?_⟩, fun i z hz => ?_⟩
  · subst e1
    obtain ⟨hlen, ⟨e0, hn⟩ | ⟨g', cap, cur, e0, hb', hg, _⟩⟩ := h1
    · subst e0
      simp [Value.ownBlock] at hk
    · subst e0
      simp [Value.ownBlock] at hk
      subst hk
      have h9 : w.heap[g']? = some (.cells #[x, y] t (0, 0)) := hb
      rw [hg] at h9
      injection h9 with h9
      injection h9 with _ h9 _
      exact het h9
  · obtain ⟨cs, hr, hu⟩ := h3 i z hz
    exact ⟨cs, K.mono (fun k hk => ⟨⟨hk.1.1, hk.2⟩, hk.1.2⟩) (hK _ _ _ hr), hu⟩
theorem OT.fill {n0 : Nat} {sh : List Int} {es : List RatL} {u : World} {a b : Value} {g : Nat} {a1 a2 : Option Addr} {n1 c1 n2 c2 : Nat} (x y : Value) (h : OT n0 sh es u a b) (hb : Box2 u g 26 (.slice a1 n1 c1) (.slice a2 n2 c2)) : OT n0 sh es ((u.setCell ⟨g, 0, none⟩ x).setCell ⟨g, 1, none⟩ y) a b := by
  have o1 := Own.off2 (K := Im) (g := g) (by decide) (fun T z cs hr => hr) h.1 hb
  have o2 := Own.off2 (K := RZ) (g := g) (by decide) (fun T z cs ⟨vn, vd, e, h1, h2⟩ => ⟨vn, vd, e, ((h1.both (Lm_notin2 h1 hb)).mono fun k hk => ⟨⟨hk.1.1, hk.2⟩, hk.1.2⟩), (h2.both (Lm_notin2 h2 hb)).mono fun k hk => ⟨⟨hk.1.1, hk.2⟩, hk.1.2⟩⟩) h.2 hb
  exact ⟨(o1.fr ((fr_put2 u g x y).mono fun k _ hk => hk.2)).mono fun k hk => hk.1, (o2.fr ((fr_put2 u g x y).mono fun k _ hk => hk.2)).mono fun k hk => hk.1⟩
theorem EachR.own {w u : World} {n0 : Nat} {sh : List Int} {es : List RatL} {r : Int} {e : Ending} (hn : n0 ≤ w.heap.size) (h : EachR w sh es r e u) : Ret w (Tup r (OT n0 (if r = 0 then sh else []) (if r = 0 then es else []))) e u := by
  obtain ⟨A, i, j, B, k, l, rfl, h1, h2, hf⟩ := h
  refine ⟨_, rfl, hf, ?_⟩
  have h3 : OT n0 (if r = 0 then sh else []) (if r = 0 then es else []) u (.slice A i j) (.slice B k l) := by
    by_cases h0 : r = 0
    · rw [if_pos h0, if_pos h0]
      exact ⟨(h2 h0).1.mono fun k hk => by omega, (h2 h0).2.mono fun k hk => by omega⟩
    · obtain ⟨e1, e2⟩ := h1 h0
      rw [if_neg h0, if_neg h0, e1, e2]
      exact ⟨Own.nil _ _ _ _, Own.nil _ _ _ _⟩
  exact fun u' hu' => ⟨_, _, _, _, _, _, rfl, h3.keep hu'⟩
section
variable {w : World} {sha : List Int} {ea : List RatL} {a b : Value} {L n0 : Nat} {r : Int}
theorem relu_o (hn : n0 ≤ w.heap.size) (h : TV sha ea w a b) (f : Hid (Fit sha ea L)) (hr : Hid (mayT sha ea = r)) : Calls Tryz.prog 20 #[.agg #[a, b]] w (Ret w (Tup r (OT n0 (if r = 0 then sha else []) (if r = 0 then ea.map fun x => canR (if (qOf x).num.sign < 0 then 0 else qOf x) else [])))) :=
  (prelu_t w a b sha ea L r hr h.1 h.2 (Lib.hid f.out.lx) f.out.one (by have := f.out.top; omega) f.out.nsh f.out.nes).mono fun _ _ h => h.own hn
theorem pow_o {n : Int} (hm : n0 ≤ w.heap.size) (h : TV sha ea w a b) (f : Hid (Fit sha ea L)) (hr : Hid (powE sha ea n = r)) (hn : Hid (-9223372036854775808 ≤ n ∧ n ≤ 9223372036854775807)) : Calls Tryz.prog 16 #[.agg #[a, b], .int .i64 n] w (Ret w (Tup r (OT n0 (if r = 0 then sha else []) (if r = 0 then ea.map fun x => canR (qOf x ^ n.toNat) else [])))) :=
  (ppow_t w a b sha ea n L r hr h.1 h.2 (Lib.hid f.out.lx) (Lib.hid fun x hx => by
    have := qOf_len (x := x) (f.out.lt x hx) (f.out.lx x hx).1 (f.out.lx x hx).2 f.out.one
    exact ⟨lt_of_dg this.1, lt_of_dg this.2⟩) f.out.one (by have := f.out.top; omega) f.out.nsh f.out.nes hn.out.1 hn.out.2).mono fun _ _ h => h.own hm
theorem scale_o {y : RatL} {p q : Value} (hm : n0 ≤ w.heap.size) (h : TV sha ea w a b) (f : Hid (Fit sha ea L)) (hr : Hid (mayT sha ea = r)) (hp : Sl Lm (fun _ => True) w p y.2.1) (hq : Sl Lm (fun _ => True) w q y.2.2) (hy : Hid (y.2.1.length ≤ L ∧ y.2.2.length ≤ L)) : Calls Tryz.prog 34 #[.agg #[a, b], .agg #[.bool y.1, p, q]] w (Ret w (Tup r (OT n0 (if r = 0 then sha else []) (if r = 0 then ea.map fun x => canR (qOf x * qOf y) else [])))) :=
  (pscale_t w a b p q sha ea y L r hr h.1 h.2 hp hq (Lib.hid f.out.lx) hy f.out.one (by have := f.out.top; omega) f.out.nsh f.out.nes).mono fun _ _ h => h.own hm
end
theorem OT.ten {n0 : Nat} {sh : List Int} {es : List RatL} {u : World} {A B : Option Addr} {n c m d b o : Nat} (h : OT n0 sh es u (.slice A n c) (.slice B m d)) (h0 : u.cell? ⟨b, o, none⟩ = some (.slice A n c)) (h1 : u.cell? ⟨b, o + 1, none⟩ = some (.slice B m d)) : TenW (fun k => n0 ≤ k) u b o :=
  ⟨A, n, c, B, m, d, h0, h1, NumS.of_own h.1, RatsW.of h.2⟩
end Go.Proofs.YtlknmoegngjpcaaGreat

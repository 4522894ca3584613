
/- New variables filled by calls in a region that draws its order; law03's same. -/
import Derived.Test.YtodpbkcdcchljaaRatO
import Derived.Test.YtodpbkcdcchljaaPair
namespace Go.Proofs.Ytodpbkcdcchljaa
open Go.RowKit

theorem frA {S : Nat → Prop} {a b : World} (h : Fr S a b.drew) (o : Obj) : Fr S a (b.alloc o).drew := h.alloc o
theorem frAA {S : Nat → Prop} {a b : World} (h : Fr S a b.drew) (o p : Obj) : Fr S a ((b.alloc o).alloc p).drew := (h.alloc o).alloc p
theorem fr3 {n : Nat} {a u : World} {b : Nat} {x y z : Value} (h : Fr (fun k => k < n) a u) (hb : n ≤ b) : Fr (fun k => k < n) a (((u.setCell ⟨b, 0, none⟩ x).setCell ⟨b, 1, none⟩ y).setCell ⟨b, 2, none⟩ z) := h.comp (fr_set3 u b x y z) fun k _ hk => ⟨hk, by omega⟩
theorem Box3.newd (w : World) (t : TypeId) (x y z : Value) : Box3 (w.alloc (.cells #[x, y, z] t)).drew w.heap.size t x y z := Box3.new w t x y z
theorem Box3.newdd (w : World) (t : TypeId) (x y z : Value) (o : Obj) : Box3 ((w.alloc (.cells #[x, y, z] t)).alloc o).drew w.heap.size t x y z := (Box3.new w t x y z).alloc o
theorem Box3.new' (w : World) (o : Obj) (t : TypeId) (x y z : Value) : Box3 ((w.alloc o).alloc (.cells #[x, y, z] t)) (w.heap.size + 1) t x y z := by
  have h := Box3.new (w.alloc o) t x y z
  rwa [World.size_alloc] at h
theorem size1 {w u : World} {o : Obj} (h : Fr (fun k => k < (w.alloc o).heap.size) (w.alloc o) u) : w.heap.size + 1 ≤ u.heap.size := by have := h.size; rwa [World.size_alloc] at this
theorem size2 {w u : World} {o p : Obj} (h : Fr (fun k => k < ((w.alloc o).alloc p).heap.size) ((w.alloc o).alloc p) u) : w.heap.size + 1 ≤ u.heap.size := by have := h.size; rw [World.size_alloc, World.size_alloc] at this; omega
theorem sizeA {w u : World} {o : Obj} (h : Fr (fun k => k < ((w.alloc o).drew).heap.size) (w.alloc o).drew u) : w.heap.size + 1 ≤ u.heap.size := by have : (w.alloc o).heap.size ≤ u.heap.size := h.size; rwa [World.size_alloc] at this
theorem sizeAA {w u : World} {o p : Obj} (h : Fr (fun k => k < (((w.alloc o).alloc p).drew).heap.size) ((w.alloc o).alloc p).drew u) : w.heap.size + 1 ≤ u.heap.size := by have : ((w.alloc o).alloc p).heap.size ≤ u.heap.size := h.size; rw [World.size_alloc, World.size_alloc] at this; omega

/-- limbs don't lie in a block of three cells of other kinds -/
theorem Sl.notin {k : IntKind} {m : Nat} {S : Nat → Prop} {w : World} {v : Value} {xs : List Nat} {b : Nat} {t : TypeId} {p : Bool} {a1 a2 : Option Addr} {n1 c1 n2 c2 : Nat} (h : Sl (Kd.nat k m) S w v xs) (hb : Box3 w b t (.bool p) (.slice a1 n1 c1) (.slice a2 n2 c2)) : Sl (Kd.nat k m) (fun j => j ≠ b) w v xs := by
  obtain ⟨A, c, e, h1, h2, h3, h4⟩ := h
  refine ⟨A, c, e, h1, h2, h3, fun hp => ?_⟩
  obtain ⟨ad, e1, hS, hr⟩ := h4 hp
  refine ⟨ad, e1, fun hbl => ?_, fun i x hx => ?_⟩
  · obtain ⟨cs, hcs, hc⟩ := hr 0 (xs[0]'(hp)) (List.getElem?_eq_getElem hp)
    have h5 := Kd.cells_size hcs (by simp [Kd.nat])
    obtain ⟨u, hu⟩ := h5
    have h6 := hc 0 u hu
    have h7 : cs = [.int k (xs[0]'(hp) : Int)] := hcs.1
    rw [h7] at hu
    simp at hu
    subst hu
    simp only [Nat.zero_mul, Nat.add_zero] at h6
    rw [show ad.add 0 = ad from addr_zero ad] at h6
    obtain ⟨bb, off, sp⟩ := ad
    dsimp only at hbl
    subst hbl
    have hb' : w.heap[bb]? = some (.cells #[.bool p, .slice a1 n1 c1, .slice a2 n2 c2] t (0, 0)) := hb
    unfold World.cell? at h6
    simp only [hb'] at h6
    by_cases hsp : sp.isSome
    · simp [hsp] at h6
    · simp only [hsp] at h6
      rcases off with _ | _ | _ | off
      · simp at h6
      · simp at h6
      · simp at h6
      · simp at h6
  · exact hr i x hx
/-- what is told by limbs or digits stays, where a block of three other cells is written anew -/
theorem Sl.over {k : IntKind} {m : Nat} {S : Nat → Prop} {w : World} {v : Value} {xs : List Nat} {b : Nat} {t : TypeId} {p : Bool} {a1 a2 : Option Addr} {n1 c1 n2 c2 : Nat} (h : Sl (Kd.nat k m) S w v xs) (hb : Box3 w b t (.bool p) (.slice a1 n1 c1) (.slice a2 n2 c2)) (x y z : Value) : Sl (Kd.nat k m) (fun _ => True) (((w.setCell ⟨b, 0, none⟩ x).setCell ⟨b, 1, none⟩ y).setCell ⟨b, 2, none⟩ z) v xs :=
  ((h.notin hb).fr (fr_set3 w b x y z)).mono fun _ _ => trivial
theorem RR.over {S : Nat → Prop} {w : World} {vn vd : Value} {q : Rat} {L b : Nat} {t : TypeId} {p : Bool} {a1 a2 : Option Addr} {n1 c1 n2 c2 : Nat} (h : RR S w vn vd q L) (hb : Box3 w b t (.bool p) (.slice a1 n1 c1) (.slice a2 n2 c2)) (x y z : Value) : RR (fun _ => True) (((w.setCell ⟨b, 0, none⟩ x).setCell ⟨b, 1, none⟩ y).setCell ⟨b, 2, none⟩ z) vn vd q L :=
  ⟨⟨Sl.over h.num.sl hb x y z, h.num.len⟩, ⟨Sl.over h.den.sl hb x y z, h.den.len⟩⟩
/-- two variables are filled -/
theorem leaf2 {n : Nat} {a U : World} {b5 b6 : Nat} {t : TypeId} {S T : Nat → Prop} {x y : Rat} {L : Nat} {s r : Bool} {A1 A2 A3 A4 : Option Addr} {n1 c1 n2 c2 n3 c3 n4 c4 : Nat}
    (x5 : Box3 U b5 t (.bool false) (.slice none 0 0) (.slice none 0 0)) (x6 : Box3 U b6 t (.bool false) (.slice none 0 0) (.slice none 0 0)) (hne : b5 ≠ b6) (ha : RR S U (.slice A1 n1 c1) (.slice A2 n2 c2) x L) (hb : RR T U (.slice A3 n3 c3) (.slice A4 n4 c4) y L) (G : Fr (fun k => k < n) a U) (l5 : n ≤ b5) (l6 : n ≤ b6) :
    Box3 ((((((U.setCell ⟨b5, 0, none⟩ (.bool s)).setCell ⟨b5, 1, none⟩ (.slice A1 n1 c1)).setCell ⟨b5, 2, none⟩ (.slice A2 n2 c2)).setCell ⟨b6, 0, none⟩ (.bool r)).setCell ⟨b6, 1, none⟩ (.slice A3 n3 c3)).setCell ⟨b6, 2, none⟩ (.slice A4 n4 c4)) b5 t (.bool s) (.slice A1 n1 c1) (.slice A2 n2 c2) ∧
    Box3 ((((((U.setCell ⟨b5, 0, none⟩ (.bool s)).setCell ⟨b5, 1, none⟩ (.slice A1 n1 c1)).setCell ⟨b5, 2, none⟩ (.slice A2 n2 c2)).setCell ⟨b6, 0, none⟩ (.bool r)).setCell ⟨b6, 1, none⟩ (.slice A3 n3 c3)).setCell ⟨b6, 2, none⟩ (.slice A4 n4 c4)) b6 t (.bool r) (.slice A3 n3 c3) (.slice A4 n4 c4) ∧
    RR (fun _ => True) ((((((U.setCell ⟨b5, 0, none⟩ (.bool s)).setCell ⟨b5, 1, none⟩ (.slice A1 n1 c1)).setCell ⟨b5, 2, none⟩ (.slice A2 n2 c2)).setCell ⟨b6, 0, none⟩ (.bool r)).setCell ⟨b6, 1, none⟩ (.slice A3 n3 c3)).setCell ⟨b6, 2, none⟩ (.slice A4 n4 c4)) (.slice A1 n1 c1) (.slice A2 n2 c2) x L ∧
    RR (fun _ => True) ((((((U.setCell ⟨b5, 0, none⟩ (.bool s)).setCell ⟨b5, 1, none⟩ (.slice A1 n1 c1)).setCell ⟨b5, 2, none⟩ (.slice A2 n2 c2)).setCell ⟨b6, 0, none⟩ (.bool r)).setCell ⟨b6, 1, none⟩ (.slice A3 n3 c3)).setCell ⟨b6, 2, none⟩ (.slice A4 n4 c4)) (.slice A3 n3 c3) (.slice A4 n4 c4) y L ∧
    Fr (fun k => k < n) a ((((((U.setCell ⟨b5, 0, none⟩ (.bool s)).setCell ⟨b5, 1, none⟩ (.slice A1 n1 c1)).setCell ⟨b5, 2, none⟩ (.slice A2 n2 c2)).setCell ⟨b6, 0, none⟩ (.bool r)).setCell ⟨b6, 1, none⟩ (.slice A3 n3 c3)).setCell ⟨b6, 2, none⟩ (.slice A4 n4 c4)) := by
  have y6 := x6.fr (fr_set3 U b5 (.bool s) (.slice A1 n1 c1) (.slice A2 n2 c2)) hne.symm
  exact ⟨(x5.set3 _ _ _).fr (fr_set3 _ b6 _ _ _) hne, y6.set3 _ _ _, (ha.over x5 _ _ _).over y6 _ _ _, (hb.over x5 _ _ _).over y6 _ _ _, fr3 (fr3 G l5) l6⟩

/-- A rational of the reference, as a function answered it. -/
def Got (u : World) (v : Value) (q : Rat) (L : Nat) : Prop := ∃ A n c B m k, v = .agg #[.bool (sg q), .slice A n c, .slice B m k] ∧ RR (fun _ => True) u (.slice A n c) (.slice B m k) q L
theorem Got.of {S : Nat → Prop} {u : World} {v1 v2 : Value} {q : Rat} {L : Nat} (h : RR S u v1 v2 q L) : Got u (.agg #[.bool (sg q), v1, v2]) q L := by
  obtain ⟨⟨A, n, c, rfl⟩, ⟨B, m, k, rfl⟩⟩ := h.form
  exact ⟨A, n, c, B, m, k, rfl, h.mono fun _ _ => trivial⟩
theorem Got.keep {u u' : World} {v : Value} {q : Rat} {L : Nat} (hf : Fr (fun k => k < u.heap.size) u u') (h : Got u v q L) : Got u' v q L := by
  obtain ⟨A, n, c, B, m, k, e, h⟩ := h
  exact ⟨A, n, c, B, m, k, e, h.keep hf⟩
/-- A new variable of three cells. -/
def Var3 (t : TypeId) (n : Nat) (u : World) (v : Value) : Prop := ∃ b, v = .pointer (some ⟨b, 0, none⟩) ∧ Box3 u b t (.bool false) (.slice none 0 0) (.slice none 0 0) ∧ n ≤ b
theorem Var3.keep {t : TypeId} {n : Nat} {u u' : World} {v : Value} (h : Var3 t n u v) (hf : Fr (fun k => k < u.heap.size) u u') : Var3 t n u' v := by
  obtain ⟨b, e, h, l⟩ := h
  exact ⟨b, e, h.keep hf, l⟩
theorem Var3.new {t : TypeId} {n : Nat} (u : World) (l : n ≤ u.heap.size) : Var3 t n (u.alloc (.cells #[.bool false, .slice none 0 0, .slice none 0 0] t)) (.pointer (some ⟨u.heap.size, 0, none⟩)) := ⟨_, rfl, Box3.new _ _ _ _ _, l⟩
theorem Var3.ne {t : TypeId} {n : Nat} {u : World} {v : Value} (h : Var3 t n u v) : v ≠ .pointer (some ⟨u.heap.size, 0, none⟩) := by
  obtain ⟨b, rfl, h, l⟩ := h
  intro e
  have hl := h.lt
  injection e with e
  injection e with e
  injection e with e
  omega

/-- Two calls and two allocs: what stands after some of them. -/
structure Bits (W : World) (t : TypeId) (G H : World → Value → Prop) (c : Nat) (p q : Bool) (u : World) (t5 t6 t8 t10 : Value) : Prop where
  fr : Fr (fun k => k < W.heap.size) W u
  x : p = true → Var3 t W.heap.size u t5
  y : q = true → Var3 t W.heap.size u t6
  ne : p = true → q = true → t5 ≠ t6
  g : 1 ≤ c → G u t8
  h : 2 ≤ c → H u t10
def Keeps (G : World → Value → Prop) : Prop := ∀ u u' v, Fr (fun k => k < u.heap.size) u u' → G u v → G u' v
def Pair (T : Value → Value → Value → Value → Act) (W : World) (t : TypeId) (G H : World → Value → Prop) (c : Nat) (p q : Bool) (a : Act) (u : World) : Prop := ∃ t5 t6 t8 t10, a = T t5 t6 t8 t10 ∧ Bits W t G H c p q u t5 t6 t8 t10
section
variable {W : World} {t : TypeId} {G H : World → Value → Prop} {c : Nat} {p q : Bool} {u : World} {t5 t6 t8 t10 : Value}
theorem Bits.left (h : Bits W t G H c false q u t5 t6 t8 t10) (kg : ∀ u u' v, Fr (fun k => k < u.heap.size) u u' → G u v → G u' v) (kh : ∀ u u' v, Fr (fun k => k < u.heap.size) u u' → H u v → H u' v) : Bits W t G H c true q (u.alloc (.cells #[.bool false, .slice none 0 0, .slice none 0 0] t)) (.pointer (some ⟨u.heap.size, 0, none⟩)) t6 t8 t10 := by
  have hf := (Fr.refl (fun k => k < u.heap.size) u).alloc (.cells #[.bool false, .slice none 0 0, .slice none 0 0] t)
  exact ⟨fr_then h.fr hf, fun _ => Var3.new u h.fr.size, fun hq => (h.y hq).keep hf, fun _ hq e => (h.y hq).ne e.symm, fun hc => kg _ _ _ hf (h.g hc), fun hc => kh _ _ _ hf (h.h hc)⟩
theorem Bits.right (h : Bits W t G H c p false u t5 t6 t8 t10) (kg : ∀ u u' v, Fr (fun k => k < u.heap.size) u u' → G u v → G u' v) (kh : ∀ u u' v, Fr (fun k => k < u.heap.size) u u' → H u v → H u' v) : Bits W t G H c p true (u.alloc (.cells #[.bool false, .slice none 0 0, .slice none 0 0] t)) t5 (.pointer (some ⟨u.heap.size, 0, none⟩)) t8 t10 := by
  have hf := (Fr.refl (fun k => k < u.heap.size) u).alloc (.cells #[.bool false, .slice none 0 0, .slice none 0 0] t)
  exact ⟨fr_then h.fr hf, fun hp => (h.x hp).keep hf, fun _ => Var3.new u h.fr.size, fun hp _ e => (h.x hp).ne e, fun hc => kg _ _ _ hf (h.g hc), fun hc => kh _ _ _ hf (h.h hc)⟩
theorem Bits.one (h : Bits W t G H 0 p q u t5 t6 t8 t10) {u' : World} {v : Value} (hf : Fr (fun k => k < u.heap.size) u u') (hg : G u' v) : Bits W t G H (0 + 1) p q u' t5 t6 v t10 :=
  ⟨fr_then h.fr hf, fun hp => (h.x hp).keep hf, fun hq => (h.y hq).keep hf, h.ne, fun _ => hg, fun h => absurd h (by decide)⟩
theorem Bits.two (h : Bits W t G H (0 + 1) p q u t5 t6 t8 t10) (kg : ∀ u u' v, Fr (fun k => k < u.heap.size) u u' → G u v → G u' v) {u' : World} {v : Value} (hf : Fr (fun k => k < u.heap.size) u u') (hg : H u' v) : Bits W t G H (0 + 1 + 1) p q u' t5 t6 t8 v :=
  ⟨fr_then h.fr hf, fun hp => (h.x hp).keep hf, fun hq => (h.y hq).keep hf, h.ne, fun _ => kg _ _ _ hf (h.g (Nat.le_refl 1)), fun _ => hg⟩
end

/-- A rational in its form, as it is read. -/
structure SV (u : World) (vn vd : Value) (q : Rat) (L : Nat) : Prop where
  num : Sl Lm (fun _ => True) u vn (dg LB q.num.natAbs)
  den : Sl Lm (fun _ => True) u vd (dg LB q.den)
  ln : (dg LB q.num.natAbs).length ≤ L
  ld : (dg LB q.den).length ≤ L
theorem SV.of {S : Nat → Prop} {u : World} {vn vd : Value} {q : Rat} {L : Nat} (h : RV S u vn vd q L) : SV u vn vd q L := ⟨h.num.sl.mono fun _ _ => trivial, h.den.sl.mono fun _ _ => trivial, h.num.len, h.den.len⟩
theorem SV.keep {u u' : World} {vn vd : Value} {q : Rat} {L : Nat} (h : SV u vn vd q L) (hf : Fr (fun k => k < u.heap.size) u u') : SV u' vn vd q L := ⟨h.num.keep' Lm_pos hf, h.den.keep' Lm_pos hf, h.ln, h.ld⟩
theorem SV.ri {u : World} {vn vd : Value} {q : Rat} {L : Nat} (h : SV u vn vd q L) : RI (fun _ => True) u (sg q) vn vd q q.num.natAbs q.den L := ⟨⟨_, h.num, val_dg _, h.ln⟩, ⟨_, h.den, val_dg _, h.ld⟩, rv_self q⟩
theorem SV.over {w : World} {vn vd : Value} {q : Rat} {L b : Nat} {t : TypeId} {p : Bool} {a1 a2 : Option Addr} {n1 c1 n2 c2 : Nat} (h : SV w vn vd q L) (hb : Box3 w b t (.bool p) (.slice a1 n1 c1) (.slice a2 n2 c2)) (x y z : Value) : SV (((w.setCell ⟨b, 0, none⟩ x).setCell ⟨b, 1, none⟩ y).setCell ⟨b, 2, none⟩ z) vn vd q L :=
  ⟨Sl.over h.num hb x y z, Sl.over h.den hb x y z, h.ln, h.ld⟩
theorem SV.form {w : World} {vn vd : Value} {q : Rat} {L : Nat} (h : SV w vn vd q L) : (∃ A n c, vn = .slice A n c) ∧ ∃ A n c, vd = .slice A n c := ⟨h.num.form, h.den.form⟩
theorem ris_sv {S : Nat → Prop} (w : World) (s t : Bool) (vn vd un ud : Value) (q p : Rat) (L K : Nat) (hq : RR S w vn vd q K) (hs : s = sg q) (hp : SV w un ud p L) (ht : t = sg p) (e : q = p) (hL : L ≤ 1099511620) :
    Calls Try.prog 16 #[.agg #[.bool s, vn, vd], .agg #[.bool t, un, ud]] w fun e w' => e = .returned (.bool true) ∧ Fr (fun k => k < w.heap.size) w w' := by
  subst e
  have h := ris_full w s t vn vd un ud q _ _ L K hq hs hp.num hp.den hp.ln hp.ld hL
  rwa [decide_eq_true (show Like t (dg LB q.num.natAbs) (dg LB q.den) q from ⟨ht, rfl, rfl⟩)] at h

/-- A copy that Own answered. -/
def Owned (s : Bool) (xs ys : List Nat) (u : World) (v : Value) : Prop := ∃ A n c B m k, v = .agg #[.bool s, .slice A n c, .slice B m k] ∧ Sl Lm (fun _ => True) u (.slice A n c) xs ∧ Sl Lm (fun _ => True) u (.slice B m k) ys
theorem Owned.of {S : Nat → Prop} {s : Bool} {u : World} {v1 v2 : Value} {xs ys : List Nat} (h : OL S u v1 v2 xs ys) : Owned s xs ys u (.agg #[.bool s, v1, v2]) := by
  obtain ⟨⟨A, n, c, rfl⟩, ⟨B, m, k, rfl⟩⟩ := h.form
  exact ⟨A, n, c, B, m, k, rfl, h.num.sl.mono fun _ _ => trivial, h.den.sl.mono fun _ _ => trivial⟩
theorem Owned.keep {s : Bool} {xs ys : List Nat} {u u' : World} {v : Value} (hf : Fr (fun k => k < u.heap.size) u u') (h : Owned s xs ys u v) : Owned s xs ys u' v := by
  obtain ⟨A, n, c, B, m, k, e, h1, h2⟩ := h
  exact ⟨A, n, c, B, m, k, e, h1.keep' Lm_pos hf, h2.keep' Lm_pos hf⟩
/-- What a division answered. -/
def DivT (s : Bool) (e : Value) (P : World → Value → Value → Prop) (u : World) (v : Value) : Prop := ∃ A n c B m k, v = .tuple #[.agg #[.bool s, .slice A n c, .slice B m k], e] ∧ P u (.slice A n c) (.slice B m k)
theorem DivT.keep {s : Bool} {e : Value} {P : World → Value → Value → Prop} (kp : ∀ u u' a b, Fr (fun k => k < u.heap.size) u u' → P u a b → P u' a b) {u u' : World} {v : Value} (hf : Fr (fun k => k < u.heap.size) u u') (h : DivT s e P u v) : DivT s e P u' v := by
  obtain ⟨A, n, c, B, m, k, e, h1⟩ := h
  exact ⟨A, n, c, B, m, k, e, kp _ _ _ _ hf h1⟩
/-- No quotient. -/
def NilP (_ : World) (a b : Value) : Prop := a = .slice none 0 0 ∧ b = .slice none 0 0

/-- One alloc, and calls: what stands after some of them. -/
structure Solo (W : World) (t : TypeId) (G1 G2 G3 : World → Value → Prop) (c : Nat) (p : Bool) (u : World) (t5 r1 r2 r3 : Value) : Prop where
  fr : Fr (fun k => k < W.heap.size) W u
  x : p = true → Var3 t W.heap.size u t5
  g1 : 1 ≤ c → G1 u r1
  g2 : 2 ≤ c → G2 u r2
  g3 : 3 ≤ c → G3 u r3
def One (T : Value → Value → Value → Value → Act) (W : World) (t : TypeId) (G1 G2 G3 : World → Value → Prop) (c : Nat) (p : Bool) (a : Act) (u : World) : Prop := ∃ t5 r1 r2 r3, a = T t5 r1 r2 r3 ∧ Solo W t G1 G2 G3 c p u t5 r1 r2 r3
section
variable {W : World} {t : TypeId} {G1 G2 G3 : World → Value → Prop} {c : Nat} {p : Bool} {u : World} {t5 r1 r2 r3 : Value}
theorem Solo.new (h : Solo W t G1 G2 G3 c false u t5 r1 r2 r3) (k1 : ∀ u u' v, Fr (fun k => k < u.heap.size) u u' → G1 u v → G1 u' v) (k2 : ∀ u u' v, Fr (fun k => k < u.heap.size) u u' → G2 u v → G2 u' v) (k3 : ∀ u u' v, Fr (fun k => k < u.heap.size) u u' → G3 u v → G3 u' v) : Solo W t G1 G2 G3 c true (u.alloc (.cells #[.bool false, .slice none 0 0, .slice none 0 0] t)) (.pointer (some ⟨u.heap.size, 0, none⟩)) r1 r2 r3 := by
  have hf := (Fr.refl (fun k => k < u.heap.size) u).alloc (.cells #[.bool false, .slice none 0 0, .slice none 0 0] t)
  exact ⟨fr_then h.fr hf, fun _ => Var3.new u h.fr.size, fun hc => k1 _ _ _ hf (h.g1 hc), fun hc => k2 _ _ _ hf (h.g2 hc), fun hc => k3 _ _ _ hf (h.g3 hc)⟩
theorem Solo.s1 (h : Solo W t G1 G2 G3 0 p u t5 r1 r2 r3) {u' : World} {v : Value} (hf : Fr (fun k => k < u.heap.size) u u') (hg : G1 u' v) : Solo W t G1 G2 G3 (0 + 1) p u' t5 v r2 r3 :=
  ⟨fr_then h.fr hf, fun hp => (h.x hp).keep hf, fun _ => hg, fun h => absurd h (by decide), fun h => absurd h (by decide)⟩
theorem Solo.s2 (h : Solo W t G1 G2 G3 (0 + 1) p u t5 r1 r2 r3) (k1 : ∀ u u' v, Fr (fun k => k < u.heap.size) u u' → G1 u v → G1 u' v) {u' : World} {v : Value} (hf : Fr (fun k => k < u.heap.size) u u') (hg : G2 u' v) : Solo W t G1 G2 G3 (0 + 1 + 1) p u' t5 r1 v r3 :=
  ⟨fr_then h.fr hf, fun hp => (h.x hp).keep hf, fun _ => k1 _ _ _ hf (h.g1 (Nat.le_refl 1)), fun _ => hg, fun h => absurd h (by decide)⟩
theorem Solo.s3 (h : Solo W t G1 G2 G3 (0 + 1 + 1) p u t5 r1 r2 r3) (k1 : ∀ u u' v, Fr (fun k => k < u.heap.size) u u' → G1 u v → G1 u' v) (k2 : ∀ u u' v, Fr (fun k => k < u.heap.size) u u' → G2 u v → G2 u' v) {u' : World} {v : Value} (hf : Fr (fun k => k < u.heap.size) u u') (hg : G3 u' v) : Solo W t G1 G2 G3 (0 + 1 + 1 + 1) p u' t5 r1 r2 v :=
  ⟨fr_then h.fr hf, fun hp => (h.x hp).keep hf, fun _ => k1 _ _ _ hf (h.g1 (by decide)), fun _ => k2 _ _ _ hf (h.g2 (by decide)), fun _ => hg⟩
theorem Solo.init {W : World} (hf : Fr (fun k => k < W.heap.size) W W) : Solo W t G1 G2 G3 0 false W t5 r1 r2 r3 :=
  ⟨hf, (fun h => by cases h), fun h => absurd h (by decide), fun h => absurd h (by decide), fun h => absurd h (by decide)⟩
end
theorem wpTill.via {P : Program} {md : Region.Mode} {ops : Array Oper} {Q : Exit → Act → World → Prop} {S : World → Prop} {j m n : Nat} {d : Array Bool} {a : Act} {w : World} (e : Array Bool) (J : Act → World → Prop) (H : ∀ a w, J a w → wpTill P md ops Q S j m e a w) (K : (∀ a w, J a w → wpTill P md ops Q S j m e a w) → wpTill P md ops Q S j n d a w) : wpTill P md ops Q S j n d a w := K H
theorem leaf1 {n : Nat} {a U : World} {b5 : Nat} {t : TypeId} {s : Bool} {v1 v2 : Value} (x5 : Box3 U b5 t (.bool false) (.slice none 0 0) (.slice none 0 0)) (G : Fr (fun k => k < n) a U) (l5 : n ≤ b5) :
    Box3 (((U.setCell ⟨b5, 0, none⟩ (.bool s)).setCell ⟨b5, 1, none⟩ v1).setCell ⟨b5, 2, none⟩ v2) b5 t (.bool s) v1 v2 ∧ Fr (fun k => k < n) a (((U.setCell ⟨b5, 0, none⟩ (.bool s)).setCell ⟨b5, 1, none⟩ v1).setCell ⟨b5, 2, none⟩ v2) :=
  ⟨x5.set3 _ _ _, fr3 G l5⟩
theorem RR.over' {w : World} {vn vd : Value} {q : Rat} {L b : Nat} {t : TypeId} {p : Bool} {a1 a2 : Option Addr} {n1 c1 n2 c2 : Nat} (h : RR (fun _ => True) w vn vd q L) (hb : Box3 w b t (.bool p) (.slice a1 n1 c1) (.slice a2 n2 c2)) (x y z : Value) : RR (fun _ => True) (((w.setCell ⟨b, 0, none⟩ x).setCell ⟨b, 1, none⟩ y).setCell ⟨b, 2, none⟩ z) vn vd q L := h.over hb x y z

theorem same_c {S T : Nat → Prop} (w : World) (va vb : Value) (xs : List Nat) (ha : Sl Lm S w va xs) (hb : Sl Lm T w vb xs) :
    Calls Try.prog 46 #[va, vb] w fun e w' => e = .returned (.bool true) ∧ w' = w := by
  have := equal_calls w va vb xs xs ha hb
  rwa [decide_eq_true rfl] at this
set_option maxHeartbeats 4000000 in
theorem same_y (w : World) (s t : Bool) (vn vd un ud : Value) (q p : Rat) (L K : Nat) (h1 : SV w vn vd q L) (hs : s = sg q) (h2 : SV w un ud p K) (ht : t = sg p) (e : p = q) :
    Calls Try.prog 37 #[.agg #[.bool s, vn, vd], .agg #[.bool t, un, ud]] w fun e w' => e = .returned (.bool true) ∧ Fr (fun k => k < w.heap.size) w w' := by
  subst e
  subst hs ht
  obtain ⟨n1, d1, _, _⟩ := h1
  obtain ⟨n2, d2, _, _⟩ := h2
  have hp : 0 < (dg LB p.den).length := by
    rcases Nat.eq_zero_or_pos (dg LB p.den).length with h | h
    · have h0 := val_dg p.den
      rw [List.length_eq_zero_iff.1 h] at h0
      have := p.den_pos
      have h1 : val [] = 0 := rfl
      omega
    · exact h
  generalize dg LB p.num.natAbs = xs at n1 n2
  generalize dg LB p.den = ys at d1 d2 hp
  generalize sg p = s
  obtain ⟨A1, c1, rfl, _⟩ := n1.slice
  obtain ⟨B1, k1, rfl, _⟩ := d1.slice
  obtain ⟨A2, c2, rfl, _⟩ := n2.slice
  obtain ⟨B2, k2, rfl, _⟩ := d2.slice
  have F := ((Fr.refl (fun k => k < w.heap.size) w).alloc (.cells #[.bool s, .slice A1 xs.length c1, .slice B1 ys.length k1] 25)).alloc (.cells #[.bool s, .slice A2 xs.length c2, .slice B2 ys.length k2] 25)
  replace n1 := n1.keep' Lm_pos F
  replace d1 := d1.keep' Lm_pos F
  replace n2 := n2.keep' Lm_pos F
  replace d2 := d2.keep' Lm_pos F
  have g0 : decide ((0 : Int) < (ys.length : Int)) = true := decide_eq_true (by omega)
  generalize hx : xs.length = X at *
  generalize hy : ys.length = Y at *
  clear hx hy
  go_enter Try.func37, Try.ntmps37
  go_wp2_with fail
  refine (same_c _ _ _ xs n1 n2).mono ?_
  rintro e w1 ⟨rfl, rfl⟩
  go_wp2_with fail
  refine (same_c _ _ _ ys d1 d2).mono ?_
  rintro e w2 ⟨rfl, rfl⟩
  go_wp2_with fail
  go_ret
  exact ⟨rfl, F⟩
/-- A rational of the program, as a function answered it. -/
def GotV (u : World) (v : Value) (q : Rat) (L : Nat) : Prop := ∃ A n c B m k, v = .agg #[.bool (sg q), .slice A n c, .slice B m k] ∧ SV u (.slice A n c) (.slice B m k) q L
theorem GotV.of {S : Nat → Prop} {u : World} {v1 v2 : Value} {q : Rat} {L : Nat} (h : RV S u v1 v2 q L) : GotV u (.agg #[.bool (sg q), v1, v2]) q L := by
  have h' := SV.of h
  obtain ⟨⟨A, n, c, rfl⟩, ⟨B, m, k, rfl⟩⟩ := h'.form
  exact ⟨A, n, c, B, m, k, rfl, h'⟩
theorem GotV.keep {u u' : World} {v : Value} {q : Rat} {L : Nat} (hf : Fr (fun k => k < u.heap.size) u u') (h : GotV u v q L) : GotV u' v q L := by
  obtain ⟨A, n, c, B, m, k, e, h⟩ := h
  exact ⟨A, n, c, B, m, k, e, h.keep hf⟩
/-- Two variables are filled. -/
theorem leaf2v {n : Nat} {a U : World} {b5 b6 : Nat} {t : TypeId} {x y : Rat} {L K : Nat} {s r : Bool} {A1 A2 A3 A4 : Option Addr} {n1 c1 n2 c2 n3 c3 n4 c4 : Nat}
    (x5 : Box3 U b5 t (.bool false) (.slice none 0 0) (.slice none 0 0)) (x6 : Box3 U b6 t (.bool false) (.slice none 0 0) (.slice none 0 0)) (hne : b5 ≠ b6) (ha : SV U (.slice A1 n1 c1) (.slice A2 n2 c2) x L) (hb : SV U (.slice A3 n3 c3) (.slice A4 n4 c4) y K) (G : Fr (fun k => k < n) a U) (l5 : n ≤ b5) (l6 : n ≤ b6) :
    Box3 ((((((U.setCell ⟨b5, 0, none⟩ (.bool s)).setCell ⟨b5, 1, none⟩ (.slice A1 n1 c1)).setCell ⟨b5, 2, none⟩ (.slice A2 n2 c2)).setCell ⟨b6, 0, none⟩ (.bool r)).setCell ⟨b6, 1, none⟩ (.slice A3 n3 c3)).setCell ⟨b6, 2, none⟩ (.slice A4 n4 c4)) b5 t (.bool s) (.slice A1 n1 c1) (.slice A2 n2 c2) ∧ Box3 ((((((U.setCell ⟨b5, 0, none⟩ (.bool s)).setCell ⟨b5, 1, none⟩ (.slice A1 n1 c1)).setCell ⟨b5, 2, none⟩ (.slice A2 n2 c2)).setCell ⟨b6, 0, none⟩ (.bool r)).setCell ⟨b6, 1, none⟩ (.slice A3 n3 c3)).setCell ⟨b6, 2, none⟩ (.slice A4 n4 c4)) b6 t (.bool r) (.slice A3 n3 c3) (.slice A4 n4 c4) ∧ SV ((((((U.setCell ⟨b5, 0, none⟩ (.bool s)).setCell ⟨b5, 1, none⟩ (.slice A1 n1 c1)).setCell ⟨b5, 2, none⟩ (.slice A2 n2 c2)).setCell ⟨b6, 0, none⟩ (.bool r)).setCell ⟨b6, 1, none⟩ (.slice A3 n3 c3)).setCell ⟨b6, 2, none⟩ (.slice A4 n4 c4)) (.slice A1 n1 c1) (.slice A2 n2 c2) x L ∧ SV ((((((U.setCell ⟨b5, 0, none⟩ (.bool s)).setCell ⟨b5, 1, none⟩ (.slice A1 n1 c1)).setCell ⟨b5, 2, none⟩ (.slice A2 n2 c2)).setCell ⟨b6, 0, none⟩ (.bool r)).setCell ⟨b6, 1, none⟩ (.slice A3 n3 c3)).setCell ⟨b6, 2, none⟩ (.slice A4 n4 c4)) (.slice A3 n3 c3) (.slice A4 n4 c4) y K ∧ Fr (fun k => k < n) a ((((((U.setCell ⟨b5, 0, none⟩ (.bool s)).setCell ⟨b5, 1, none⟩ (.slice A1 n1 c1)).setCell ⟨b5, 2, none⟩ (.slice A2 n2 c2)).setCell ⟨b6, 0, none⟩ (.bool r)).setCell ⟨b6, 1, none⟩ (.slice A3 n3 c3)).setCell ⟨b6, 2, none⟩ (.slice A4 n4 c4)) := by
  have y6 := x6.fr (fr_set3 U b5 (.bool s) (.slice A1 n1 c1) (.slice A2 n2 c2)) hne.symm
  exact ⟨(x5.set3 _ _ _).fr (fr_set3 _ b6 _ _ _) hne, y6.set3 _ _ _, (ha.over x5 _ _ _).over y6 _ _ _, (hb.over x5 _ _ _).over y6 _ _ _, fr3 (fr3 G l5) l6⟩
end Go.Proofs.Ytodpbkcdcchljaa

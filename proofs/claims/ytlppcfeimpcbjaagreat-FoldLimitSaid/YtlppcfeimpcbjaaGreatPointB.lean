/- Texts merged: PtF, PtG, PtH, PtI, PtJ. -/
import Derived.Test.YtlppcfeimpcbjaaGreatPointA
import Derived.RangeFuncNested
import Derived.Stop.RegionWithIn
import Derived.Test.YtlppcfeimpcbjaaGreatTenNP
import Derived.Test.YtlppcfeimpcbjaaGreatFacts
set_option linter.unusedSimpArgs false
set_option linter.unusedVariables false

/- Pairs of elements, gone over: point.pairs. -/
namespace Go.Proofs.YtlppcfeimpcbjaaGreat
open Go.RowKit Go.Shelf
attribute [local go_sem] Oper.semAt_some

set_option maxRecDepth 100000 in
set_option maxHeartbeats 4000000 in
theorem pairs1_in (l B1 B2 N : Nat) (S : Nat → Prop) (A1 A2 : Option Addr) (c1 c2 : Nat) (E1 E2 : Nat → Value) (hN : N ≤ 9223372036854775807) (J Jx : List Nat → World → Prop) (W : World)
    (hb1 : Box W B1 24 (.slice A1 N c1)) (hb2 : Box W B2 24 (.slice A2 N c2)) (hS1 : S B1) (hS2 : S B2) (hel1 : ∀ j, j < N → Elem S W A1 j (E1 j)) (hel2 : ∀ j, j < N → Elem S W A2 j (E2 j)) (hJ : AbidesFrom W.heap.size J)
    (hY : ∀ pre x W1, J pre W1 → pre.length < N → YieldAt Fence.wide (2 - 1) Tryz.prog l #[E1 x, E2 x] W1 fun e W' =>
      (e = .returned (.bool true) ∧ J (pre ++ [x]) W' ∧ Fr S W1 W') ∨ (e = .returned (.bool false) ∧ Jx (pre ++ [x]) W'))
    (h0 : J [] W) :
    CallsIn Fence.wide 2 Tryz.prog 139 #[.func (.yield l) #[] #[], .pointer (some ⟨B1, 0, none⟩), .pointer (some ⟨B2, 0, none⟩)] W fun e W' => (∃ v, e = .returned v) ∧
      ((∃ ys, ys = List.range N ∧ J ys W') ∨ (∃ pre, pre <+: List.range N ∧ Jx pre W')) := by
  have k1 := hb1.cell
  have k2 := hb2.cell
  have HE1 := Lib.hid hel1
  have HE2 := Lib.hid hel2
  have HJ := Lib.hid hJ
  have HY := Lib.hid hY
  clear hel1 hel2 hJ hY
  refine callsIn_of_wp Tryz.func139 rfl trivial ?_ rfl
  simp only [Tryz.ntmps139, List.size_toArray, List.length_cons, List.length_nil, Nat.reduceAdd, Nat.reduceSub, Array.replicate_succ, Array.replicate_zero, List.push_toArray, List.append_toArray, List.nil_append, List.cons_append]
  gi_wp2
  gi_loopw [10] (fun i wr => ∃ k : Nat, k ≤ N ∧ i = .int .i64 (k : Int) ∧ J (List.range k) wr ∧ Fr S W wr) (fun i _ => N - (intOf i).toNat)
  case atStart => exact ⟨0, Nat.zero_le _, by simp, by simpa using h0, Fr.refl _ _⟩
  case round =>
    clear k1 k2
    obtain ⟨k, hk, rfl, hJs, hF⟩ := hrel
    by_cases hlt : k < N
    · have hFd := hF.drew
      have k1 := (hb1.fr hFd hS1).cell
      have k2 := (hb2.fr hFd hS2).cell
      obtain ⟨ad, s, P, n, d, Q, m, o, rfl, hS, hv, g0, g1, g2⟩ := (HE1.out k hlt).fr hFd
      obtain ⟨ad', s', P', n', d', Q', m', o', rfl, hS', hv', g0', g1', g2'⟩ := (HE2.out k hlt).fr hFd
      have hJs' : J (List.range k) wr.drew := HJ.out _ _ _ none hJs ⟨rfl, rfl, rfl, Nat.le_refl _, fun _ _ _ => rfl⟩ (fun r e => by cases e)
      obtain ⟨fn, tmps, assign, body, hy, hR⟩ := HY.out _ k _ hJs' (by rw [List.length_range]; exact hlt)
      rw [hv, hv'] at hy
      have HF := Lib.hid hFd
      have HR := Lib.hid hR
      clear hJs' hFd hJs hF hR
      gi_wp2
      gi_region_with (refine HR.out.mono ?_; rintro e W3 hd; obtain ⟨b, rfl, HD⟩ : ∃ b, e = .returned (.bool b) ∧ Hid ((b = true ∧ J (List.range k ++ [k]) W3 ∧ Fr S wr.drew W3) ∨ (b = false ∧ Jx (List.range k ++ [k]) W3)) := (by rcases hd with ⟨rfl, h⟩ | ⟨rfl, h⟩; exact ⟨true, rfl, Lib.hid (.inl ⟨rfl, h⟩)⟩; exact ⟨false, rfl, Lib.hid (.inr ⟨rfl, h⟩)⟩))
      all_goals
        clear hd
        rcases HD.out with ⟨rfl, hJ3, hk3⟩ | ⟨rfl, hJx3⟩
        · gi_wp2
          go_roundw
          case rel => exact ⟨k + 1, by omega, by congr 1, by rw [List.range_succ]; exact hJ3, HF.out.trans hk3⟩
          case measure => simp [intOf]; omega
        · gi_wp2
          refine bodyPost_ret (results_none rfl _ _ _) rfl ?_
          exact ⟨⟨_, rfl⟩, .inr ⟨_, by rw [← List.range_succ]; exact range_prefix hlt, hJx3⟩⟩
    · obtain rfl : k = N := by omega
      gi_wp2
      go_end0
      exact ⟨⟨_, rfl⟩, .inl ⟨_, rfl, hJs⟩⟩

theorem pairs_stops (S : Nat → Prop) (w : World) (B1 B2 N : Nat) (A1 A2 : Option Addr) (c1 c2 : Nat) (E1 E2 : Nat → Value) (hN : N ≤ 9223372036854775807)
    (hb1 : Box w B1 24 (.slice A1 N c1)) (hb2 : Box w B2 24 (.slice A2 N c2)) (hS1 : S B1) (hS2 : S B2) (hel1 : ∀ j, j < N → Elem (fun k => S k ∧ k < w.heap.size) w A1 j (E1 j)) (hel2 : ∀ j, j < N → Elem (fun k => S k ∧ k < w.heap.size) w A2 j (E2 j)) :
    SeqStopsK Fence.wide 2 Tryz.prog 139 #[.pointer (some ⟨B1, 0, none⟩), .pointer (some ⟨B2, 0, none⟩)] (fun x : Nat => #[E1 x, E2 x]) (Fr S) (fun ys => ys = List.range N) (fun pre => pre <+: List.range N) N w :=
  fun l J Jx W hW hJ _ hY h0 =>
    have hf := Fr.of_below hW
    pairs1_in l B1 B2 N S A1 A2 c1 c2 E1 E2 hN J Jx W (hb1.fr hf hb1.lt) (hb2.fr hf hb2.lt) hS1 hS2 (fun j hj => ((hel1 j hj).fr (hf.mono fun k _ hk => hk.2)).mono fun k hk => hk.1) (fun j hj => ((hel2 j hj).fr (hf.mono fun k _ hk => hk.2)).mono fun k hk => hk.1) hJ hY h0
end Go.Proofs.YtlppcfeimpcbjaaGreat


/- point.pairs, sure. -/
namespace Go.Proofs.YtlppcfeimpcbjaaGreat
open Go.RowKit

theorem pairs_t (w : World) (A B : Option Addr) (n c m d : Nat) :
    Calls Tryz.prog 118 #[.slice A n c, .slice B m d] w fun e w' => e = .returned (.func (.func 139) #[] #[.pointer (some ⟨w.heap.size, 0, none⟩), .pointer (some ⟨w.heap.size + 1, 0, none⟩)]) ∧ Box w' w.heap.size 24 (.slice A n c) ∧ Box w' (w.heap.size + 1) 24 (.slice B m d) ∧ Fr (fun k => k < w.heap.size) w w' := by
  have F := ((Fr.refl (fun k => k < w.heap.size) w).alloc (.cells #[.slice A n c] 24)).alloc (.cells #[.slice B m d] 24)
  have b1 := (Box.new w 24 (.slice A n c)).alloc (.cells #[.slice B m d] 24)
  have b2 := Box.new (w.alloc (.cells #[.slice A n c] 24)) 24 (.slice B m d)
  rw [World.size_alloc] at b2
  go_enter Tryz.func118, Tryz.ntmps118
  go_wp2_with fail
  go_ret
  exact ⟨rfl, b1, b2, F⟩
theorem sure_t (w : World) (f : FuncId) :
    Calls Tryz.prog 80 #[.func (.func f) #[] #[]] w fun e w' => e = .returned (.func (.func 119) #[] #[.pointer (some ⟨w.heap.size, 0, none⟩)]) ∧ Box w' w.heap.size 82 (.func (.func f) #[] #[]) ∧ Fr (fun k => k < w.heap.size) w w' := by
  have F := (Fr.refl (fun k => k < w.heap.size) w).alloc (.cells #[.func (.func f) #[] #[]] 82)
  have b1 := Box.new w 82 (.func (.func f) #[] #[])
  go_enter Tryz.func80, Tryz.ntmps80
  go_wp2_with fail
  go_ret
  exact ⟨rfl, b1, F⟩

/-- A function of two elements, with an error. -/
def Two (g : RatL → RatL → RatL) (x y : RatL) (r : Int) (w : World) (e : Ending) (w' : World) : Prop := ∃ s A i j B k l, e = .returned (.tuple #[.agg #[.bool s, .slice A i j, .slice B k l], .int .i64 r]) ∧ (r = 0 → s = (g x y).1 ∧ OL (fun k => w.heap.size ≤ k) w' (.slice A i j) (.slice B k l) (g x y).2.1 (g x y).2.2) ∧ Fr (fun k => k < w.heap.size) w w'

set_option maxHeartbeats 2000000 in
theorem sure1_t (w : World) (f : FuncId) (g : RatL → RatL → RatL) (hcf : ∀ (args : Array Value) (u : World), (callFunc f args).run Tryz.prog u = .ok (.enter f args) u) (x y : RatL) (vn vd un ud : Value) (X : Nat → Prop) (b : Nat) (hb : Box w b 82 (.func (.func f) #[] #[]))
    (h1 : Sl Lm X w vn x.2.1) (h2 : Sl Lm X w vd x.2.2) (h3 : Sl Lm X w un y.2.1) (h4 : Sl Lm X w ud y.2.2)
    (hF : ∀ (u : World), Fr (fun k => k < w.heap.size) w u → Calls Tryz.prog f #[.agg #[.bool x.1, vn, vd], .agg #[.bool y.1, un, ud]] u fun e u' => ∃ v1 v2, e = .returned (.agg #[.bool (g x y).1, v1, v2]) ∧ OL (fun k => u.heap.size ≤ k) u' v1 v2 (g x y).2.1 (g x y).2.2 ∧ Fr (fun k => k < u.heap.size) u u') :
    Calls Tryz.prog 119 #[.agg #[.bool x.1, vn, vd], .agg #[.bool y.1, un, ud], .pointer (some ⟨b, 0, none⟩)] w (Two g x y 0 w) := by
  obtain ⟨A1, n1, c1, rfl⟩ := h1.form
  obtain ⟨A2, n2, c2, rfl⟩ := h2.form
  obtain ⟨A3, n3, c3, rfl⟩ := h3.form
  obtain ⟨A4, n4, c4, rfl⟩ := h4.form
  generalize x.1 = sx at hF
  generalize y.1 = sy at hF
  have F := (((Fr.refl (fun k => k < w.heap.size) w).alloc (.cells #[.bool sx, .slice A1 n1 c1, .slice A2 n2 c2] 54)).alloc (.cells #[.bool sy, .slice A3 n3 c3, .slice A4 n4 c4] 54)).alloc (.cells #[.bool false, .slice none 0 0, .slice none 0 0] 54)
  have x1 := ((Box3.new w 54 (.bool sx) (.slice A1 n1 c1) (.slice A2 n2 c2)).alloc (.cells #[.bool sy, .slice A3 n3 c3, .slice A4 n4 c4] 54)).alloc (.cells #[.bool false, .slice none 0 0, .slice none 0 0] 54)
  have x2 := (Box3.new (w.alloc (.cells #[.bool sx, .slice A1 n1 c1, .slice A2 n2 c2] 54)) 54 (.bool sy) (.slice A3 n3 c3) (.slice A4 n4 c4)).alloc (.cells #[.bool false, .slice none 0 0, .slice none 0 0] 54)
  have hz := box_nz ((w.alloc (.cells #[.bool sx, .slice A1 n1 c1, .slice A2 n2 c2] 54)).alloc (.cells #[.bool sy, .slice A3 n3 c3, .slice A4 n4 c4] 54))
  simp only [World.size_alloc] at x2 hz
  have k0 := (hb.fr F hb.lt).cell
  have d0 := x1.c0
  have d1 := x1.c1
  have d2 := x1.c2
  have e0 := x2.c0
  have e1 := x2.c1
  have e2 := x2.c2
  go_enter Tryz.func119, Tryz.ntmps119
  go_wp2_with fail
  generalize ((w.alloc (.cells #[.bool sx, .slice A1 n1 c1, .slice A2 n2 c2] 54)).alloc (.cells #[.bool sy, .slice A3 n3 c3, .slice A4 n4 c4] 54)).alloc (.cells #[.bool false, .slice none 0 0, .slice none 0 0] 54) = W at F x1 x2 hz k0 d0 d1 d2 e0 e1 e2 ⊢
  have p := Lib.hid (hF W F)
  clear hF
  with_reducible refine p.out.mono ?_
  rintro e w3 ⟨v1, v2, rfl, ho, hf⟩
  obtain ⟨⟨B1, m1, k1, rfl⟩, ⟨B2, m2, k2, rfl⟩⟩ := ho.form
  have lb := hz.lt
  replace hz := hz.keep hf
  replace F := fr_then F hf
  clear p hf x1 x2 k0 d0 d1 d2 e0 e1 e2
  go_wp2_with ((with_reducible apply wpList_st3); rfl; rfl; exact hz; exact rat3; rfl; rfl; rfl; intro w9 B9 F9)
  refine bodyPost_ret (results_cell3_tmp rfl rfl B9 Tryz.underlying54 rat3) rfl ?_
  exact ⟨_, _, _, _, _, _, _, rfl, fun _ => ⟨rfl, ho.past F9 (fun k _ hk => by omega) (fun k hk => by omega)⟩, F.comp F9 fun k _ hk => ⟨hk, by omega⟩⟩
end Go.Proofs.YtlppcfeimpcbjaaGreat


/- point.both. -/
namespace Go.Proofs.YtlppcfeimpcbjaaGreat
open Go.RowKit Go.Shelf
attribute [local go_sem] Oper.semAt_some

/-- Why a function of two tensors doesn't answer one. -/
def bothE (er : RatL → RatL → Int) (sha : List Int) (ea : List RatL) (shb : List Int) (eb : List RatL) : Int :=
  if mayT sha ea ≠ 0 then mayT sha ea else if mayT shb eb ≠ 0 then mayT shb eb else if sha ≠ shb then 13 else if ∀ i, i < ea.length → er (ea.getD i zR) (eb.getD i zR) = 0 then 0 else 17
section
variable {er : RatL → RatL → Int} {sha shb : List Int} {ea eb : List RatL}
theorem bothE_a (h : mayT sha ea ≠ 0) : bothE er sha ea shb eb = mayT sha ea := if_pos h
theorem bothE_b (h : mayT sha ea = 0) (h1 : mayT shb eb ≠ 0) : bothE er sha ea shb eb = mayT shb eb := by
  unfold bothE
  rw [if_neg (by simpa using h), if_pos h1]
theorem bothE_13 (h : mayT sha ea = 0) (h1 : mayT shb eb = 0) (h2 : sha ≠ shb) : bothE er sha ea shb eb = 13 := by
  unfold bothE
  rw [if_neg (by simpa using h), if_neg (by simpa using h1), if_pos h2]
theorem bothE_0 (h : mayT sha ea = 0) (h1 : mayT shb eb = 0) (h2 : sha = shb) (h3 : ∀ i, i < ea.length → er (ea.getD i zR) (eb.getD i zR) = 0) : bothE er sha ea shb eb = 0 := by
  unfold bothE
  rw [if_neg (by simpa using h), if_neg (by simpa using h1), if_neg (by simpa using h2), if_pos h3]
theorem bothE_17 (h : mayT sha ea = 0) (h1 : mayT shb eb = 0) (h2 : sha = shb) (h3 : ¬ ∀ i, i < ea.length → er (ea.getD i zR) (eb.getD i zR) = 0) : bothE er sha ea shb eb = 17 := by
  unfold bothE
  rw [if_neg (by simpa using h), if_neg (by simpa using h1), if_neg (by simpa using h2), if_neg h3]
end
def zipG (g : RatL → RatL → RatL) (ea eb : List RatL) (i : Nat) : RatL := g (ea.getD i zR) (eb.getD i zR)

/-- What lies in memory from the beginning on. -/
structure BothI (w : World) (va vea vb veb vf : Value) (sha : List Int) (ea : List RatL) (shb : List Int) (eb : List RatL) (W : World) : Prop where
  a1 : Sl Im (fun k => k < w.heap.size) W va sha
  a2 : Sl Rm (fun k => k < w.heap.size) W vea ea
  b1 : Sl Im (fun k => k < w.heap.size) W vb shb
  b2 : Sl Rm (fun k => k < w.heap.size) W veb eb
  x0 : Box2 W w.heap.size 26 va vea
  x1 : Box2 W (w.heap.size + 1) 26 vb veb
  x2 : Box W (w.heap.size + 2) 118 vf
  x3 : Box2 W (w.heap.size + 3) 26 (.slice none 0 0) (.slice none 0 0)
  x4 : Box W (w.heap.size + 4) 29 (.int .i64 0)
  fr : Fr (fun k => k < w.heap.size) w W
theorem BothI.keep {w : World} {va vea vb veb vf : Value} {sha shb : List Int} {ea eb : List RatL} {W W' : World} (h : BothI w va vea vb veb vf sha ea shb eb W) {R : Nat → Prop} (hf : Fr R W W') (hR : ∀ k, k < w.heap.size + 5 → R k) : BothI w va vea vb veb vf sha ea shb eb W' :=
  ⟨h.a1.fr (hf.mono fun k _ hk => hR k (by omega)), h.a2.fr (hf.mono fun k _ hk => hR k (by omega)), h.b1.fr (hf.mono fun k _ hk => hR k (by omega)), h.b2.fr (hf.mono fun k _ hk => hR k (by omega)),
    h.x0.fr hf (hR _ (by omega)), h.x1.fr hf (hR _ (by omega)), h.x2.fr hf (hR _ (by omega)), h.x3.fr hf (hR _ (by omega)), h.x4.fr hf (hR _ (by omega)), h.fr.comp hf fun k _ hk => ⟨hk, hR k (by omega)⟩⟩
theorem BothI.lt {w : World} {va vea vb veb vf : Value} {sha shb : List Int} {ea eb : List RatL} {W : World} (h : BothI w va vea vb veb vf sha ea shb eb W) : w.heap.size + 5 ≤ W.heap.size := h.x4.lt

theorem results_both {tmps : Array Value} {w : World} {b b' : Nat} {x y : Value} {r : Int} (hc : tmps.getD 6 undef = .pointer (some ⟨b, 0, none⟩)) (he : tmps.getD 7 undef = .pointer (some ⟨b', 0, none⟩)) (hb : Box2 w b 26 x y) (hx : Box w b' 29 (.int .i64 r)) :
    (results Tryz.f79 tmps).run Tryz.prog w = .ok (.tuple #[.agg #[x, y], .int .i64 r]) w := by
  have hk := hx.cell
  have h0 := hb.c0
  have h1 := hb.c1
  rw [Array.getD_eq_getD_getElem?] at hc he
  simp [results, Tryz.f79, hc, he, asAddr, go_sem, hk, h0, h1]

theorem act_named {p : Act → Prop} (a : Act) (h : ∀ A0, A0 = a → p A0) : p a := h a rfl
section
variable {P : Program} {α : Type} {K : Kd α} {e : TypeId} {t : TypeId} {bytes : Nat} {o : Oper} {ops : Array Oper} {rest : List Oper} {a : Act} {Q : Exit → Act → World → Prop} {l n : Nat}
theorem wpListIn_push1 (E : ElemT P K t e bytes) (hgd : o.guard = none) {s x : Operand} (ho : o.op = .call { callee := .builtin .append, args := #[s, x], argTypes := #[t, t] }) {w : World}
    {S T : Nat → Prop} {v : Value} {xs : List α} {y : α} {cs : List Value} (hs : a.eval s = v) (hx : a.eval x = .slice (some ⟨w.heap.size, 0, none⟩) 1 1) (h : Own K e S w v xs) (hy : K.rd T w y cs)
    (hT : ∀ k, T k → k < w.heap.size → S k ∧ some k ≠ v.ownBlock)
    (hnew : ∀ k, w.heap.size ≤ k → S k) (hl : (xs.length + 1) * bytes ≤ 140737488355328) (hm : xs.length + 1 ≤ 9223372036854775807)
    (next : ∀ v' w', Own K e S w' v' (xs ++ [y]) → Fr (fun k => some k ≠ v.ownBlock) w w' → (v'.ownBlock = v.ownBlock ∨ ∃ b, v'.ownBlock = some b ∧ w.heap.size ≤ b) → wpListIn (Fence.wide.inRound l) n P ops Q rest (a.put o.dst v') w') :
    wpListIn (Fence.wide.inRound l) n P ops Q (o :: rest) a (w.alloc (.cells cs.toArray e)) :=
  wpListIn_plain hgd fun K' hK' => oper_in l n (by rw [ho]; intro c hc; cases hc) (oper_push1 E ho hs hx h hy hT hnew hl hm fun v' w' h1 h2 h3 => hK' _ _ (next v' w' h1 h2 h3))
end
/-- Two loops' variables of three cells, laid behind the row that grows. -/
def VarY (b5 : Nat) (t : TypeId) (s0 : Value) (B : Nat) (E1 E2 : Nat → Value) (T : Nat → Value → Value → Act) (x : Nat) (a : Act) (W : World) : Prop :=
  ∃ b s P n c Q m k b' s' P' n' c' Q' m' k' v2, a = T x (.pointer (some ⟨b, 0, none⟩)) (.pointer (some ⟨b', 0, none⟩)) ∧ B ≤ b ∧ B ≤ b' ∧ E1 x = .agg #[.bool s, .slice P n c, .slice Q m k] ∧ E2 x = .agg #[.bool s', .slice P' n' c', .slice Q' m' k'] ∧ Box3 W b 54 (.bool s) (.slice P n c) (.slice Q m k) ∧ Box3 W b' 54 (.bool s') (.slice P' n' c') (.slice Q' m' k') ∧ Box2 W b5 t s0 v2 ∧ ∀ g, v2.ownBlock = some g → g < b ∧ g < b'
theorem VarY.own (b5 : Nat) (t : TypeId) (s0 : Value) (B C : Nat) (E1 E2 : Nat → Value) (T : Nat → Value → Value → Act) (x : Nat) (a : Act) : OwnFrom C (fun (_ : Unit) W => VarY b5 t s0 B E1 E2 T x a W) := fun _ W W' row hs hg hr => by
  obtain ⟨b, s, P, n, c, Q, m, k, b', s', P', n', c', Q', m', k', v2, e, hb, hb', hE1, hE2, hx, hx', h2, h3⟩ := hs
  exact ⟨b, s, P, n, c, Q, m, k, b', s', P', n', c', Q', m', k', v2, e, hb, hb', hE1, hE2, grown_cells hg hr hx, grown_cells hg hr hx', grown_cells hg hr h2, h3⟩
/-- What lies in memory while the pairs are gone over. -/
def BothL (g : RatL → RatL → RatL) (er : RatL → RatL → Int) (ea eb : List RatL) (b5 n : Nat) (s : Value) (w : World) (pre : List Nat) (W : World) : Prop :=
  (∀ i ∈ pre, er (ea.getD i zR) (eb.getD i zR) = 0) ∧ ∃ v2, Box2 W b5 26 s v2 ∧ Own RZ 54 (fun k => n ≤ k) W v2 (pre.map (zipG g ea eb)) ∧ Fr (fun k => k < n ∧ k ≠ b5) w W
theorem BothL.own {g : RatL → RatL → RatL} {er : RatL → RatL → Int} {ea eb : List RatL} {b5 n : Nat} {s : Value} {w : World} (hb : b5 < n) : OwnFrom n (fun pre W => BothL g er ea eb b5 n s w pre W) := fun pre W W' row hs hg hr => by
  obtain ⟨h0, v2, h1, h2, h3⟩ := hs
  exact ⟨h0, v2, grown_cells hg hr h1, h2.turn (fun _ _ _ => RZ_cl) hg hr, h3.comp (Fr.of_grown hg) fun k _ hk => ⟨hk, fun e => by have := (hr k e.symm).1; omega⟩⟩

theorem shsame_t {S T : Nat → Prop} (w : World) (va vb : Value) (a b : List Int) (ha : Sl Im S w va a) (hb : Sl Im T w vb b) :
    Calls Tryz.prog 117 #[va, vb] w fun e w' => e = .returned (.bool (decide (a = b))) ∧ Fr (fun _ => True) w w' := by
  obtain ⟨A, n, c, rfl⟩ := ha.form
  obtain ⟨B, m, d, rfl⟩ := hb.form
  have p := Lib.hid (slequal_calls w (.slice A n c) (.slice B m d) a b ha hb)
  generalize decide (a = b) = z at p ⊢
  go_enter Tryz.func117, Tryz.ntmps117
  go_wp2_with fail
  with_reducible refine p.out.mono ?_
  rintro e w1 ⟨rfl, hf⟩
  go_wp2_with fail
  go_ret
  exact ⟨rfl, hf⟩

set_option maxRecDepth 100000 in
set_option maxHeartbeats 8000000 in
theorem both_t {S T U V : Nat → Prop} (f : FuncId) (caps : Array Value) (g : RatL → RatL → RatL) (er : RatL → RatL → Int) (hcf : ∀ (args : Array Value) (u : World), (callFunc f args).run Tryz.prog u = .ok (.enter f args) u) (w : World) (va vea vb veb : Value) (sha shb : List Int) (ea eb : List RatL) (L : Nat) (r : Int) (hr : Hid (bothE er sha ea shb eb = r)) (ha : Sl Im S w va sha) (hea : Sl Rm T w vea ea) (hb : Sl Im U w vb shb) (heb : Sl Rm V w veb eb)
    (hLa : ∀ x ∈ ea, x.2.1.length ≤ L ∧ x.2.2.length ≤ L) (hLb : ∀ x ∈ eb, x.2.1.length ≤ L ∧ x.2.2.length ≤ L) (hL1 : 1 ≤ L) (hl : L ≤ 104857600) (her : ∀ y z, er y z = 0 ∨ er y z = 17) (hsl : sha.length ≤ 1099511627000) (hel : ea.length ≤ 1099511627000)
    (hF : Hid (∀ (u : World) (x y : RatL) (vn vd un ud : Value) (X : Nat → Prop), Fr (fun k => k < w.heap.size) w u → Sl Lm X u vn x.2.1 → Sl Lm X u vd x.2.2 → Sl Lm X u un y.2.1 → Sl Lm X u ud y.2.2 → x.2.1.length ≤ L ∧ x.2.2.length ≤ L → y.2.1.length ≤ L ∧ y.2.2.length ≤ L → Calls Tryz.prog f (#[.agg #[.bool x.1, vn, vd], .agg #[.bool y.1, un, ud]] ++ caps) u (Two g x y (er x y) u))) :
    Calls Tryz.prog 79 #[.agg #[va, vea], .agg #[vb, veb], .func (.func f) #[] caps] w (EachR w sha ((List.range ea.length).map (zipG g ea eb)) r) := by
  obtain ⟨A, c, rfl, _, _, _⟩ := ha.slice
  obtain ⟨A', c', rfl, _, _, hlea⟩ := hea.slice
  obtain ⟨B, d, rfl, _, _, _⟩ := hb.slice
  obtain ⟨B', d', rfl, _, _, hleb⟩ := heb.slice
  have F0 := fun R => ((((((Fr.refl R w).alloc (.cells #[.slice A sha.length c, .slice A' ea.length c'] 26)).alloc (.cells #[.slice B shb.length d, .slice B' eb.length d'] 26)).alloc (.cells #[.func (.func f) #[] caps] 118)).alloc (.cells #[.slice none 0 0, .slice none 0 0] 26)).alloc (.cells #[.int .i64 0] 29))
  have x0 := (((((Box2.new w 26 (.slice A sha.length c) (.slice A' ea.length c')).alloc (.cells #[.slice B shb.length d, .slice B' eb.length d'] 26)).alloc (.cells #[.func (.func f) #[] caps] 118)).alloc (.cells #[.slice none 0 0, .slice none 0 0] 26)).alloc (.cells #[.int .i64 0] 29))
  have x1 := ((((Box2.new (w.alloc (.cells #[.slice A sha.length c, .slice A' ea.length c'] 26)) 26 (.slice B shb.length d) (.slice B' eb.length d')).alloc (.cells #[.func (.func f) #[] caps] 118)).alloc (.cells #[.slice none 0 0, .slice none 0 0] 26)).alloc (.cells #[.int .i64 0] 29))
  have x2 := (((Box.new ((w.alloc (.cells #[.slice A sha.length c, .slice A' ea.length c'] 26)).alloc (.cells #[.slice B shb.length d, .slice B' eb.length d'] 26)) 118 (.func (.func f) #[] caps)).alloc (.cells #[.slice none 0 0, .slice none 0 0] 26)).alloc (.cells #[.int .i64 0] 29))
  have x3 := ((Box2.new (((w.alloc (.cells #[.slice A sha.length c, .slice A' ea.length c'] 26)).alloc (.cells #[.slice B shb.length d, .slice B' eb.length d'] 26)).alloc (.cells #[.func (.func f) #[] caps] 118)) 26 (.slice none 0 0) (.slice none 0 0)).alloc (.cells #[.int .i64 0] 29))
  have x4 := Box.new ((((w.alloc (.cells #[.slice A sha.length c, .slice A' ea.length c'] 26)).alloc (.cells #[.slice B shb.length d, .slice B' eb.length d'] 26)).alloc (.cells #[.func (.func f) #[] caps] 118)).alloc (.cells #[.slice none 0 0, .slice none 0 0] 26)) 29 (.int .i64 0)
  simp only [World.size_alloc] at x1 x2 x3 x4
  have I0 : BothI w (.slice A sha.length c) (.slice A' ea.length c') (.slice B shb.length d) (.slice B' eb.length d') (.func (.func f) #[] caps) sha ea shb eb _ := ⟨ha.up Im_pos (Nat.le_refl _) (F0 _), hea.up Rm_pos (Nat.le_refl _) (F0 _), hb.up Im_pos (Nat.le_refl _) (F0 _), heb.up Rm_pos (Nat.le_refl _) (F0 _), x0, x1, x2, x3, x4, F0 _⟩
  have I1 := Lib.hid (I0.keep ((Fr.refl (fun _ => True) _).alloc (.cells #[.slice A sha.length c, .slice A' ea.length c', .slice B shb.length d, .slice B' eb.length d'] 26)) fun _ _ => trivial)
  have hrow := heap_alloc_new (((((w.alloc (.cells #[.slice A sha.length c, .slice A' ea.length c'] 26)).alloc (.cells #[.slice B shb.length d, .slice B' eb.length d'] 26)).alloc (.cells #[.func (.func f) #[] caps] 118)).alloc (.cells #[.slice none 0 0, .slice none 0 0] 26)).alloc (.cells #[.int .i64 0] 29)) (.cells #[.slice A sha.length c, .slice A' ea.length c', .slice B shb.length d, .slice B' eb.length d'] 26)
  simp only [World.size_alloc] at hrow
  have HROW := Lib.hid hrow
  obtain ⟨ra, hra⟩ : ∃ r, mayT sha ea = r := ⟨_, rfl⟩
  obtain ⟨rb, hrb⟩ : ∃ r, mayT shb eb = r := ⟨_, rfl⟩
  have HRA := Lib.hid hra
  have HRB := Lib.hid hrb
  have HLA := Lib.hid hLa
  have HLB := Lib.hid hLb
  clear ha hea hb heb F0 x0 x1 x2 x3 x4 I0 hrow hra hrb hLa hLb
  refine (callsIn_wide (n := 3)).1 ?_
  refine callsIn_of_wp_marks Tryz.func79 rfl trivial ?_ rfl
  simp only [Tryz.ntmps79, List.size_toArray, List.length_cons, List.length_nil, Nat.reduceAdd, Nat.reduceSub, Array.replicate_succ, Array.replicate_zero, List.push_toArray, List.append_toArray, List.nil_append, List.cons_append]
  gi_wp2_with fail
  gi_loopw [20] (fun i wr => ∃ (k : Nat), k ≤ 2 ∧ i = .int .i64 k ∧ (0 < k → ra = 0) ∧ (1 < k → rb = 0) ∧ Hid (BothI w (.slice A sha.length c) (.slice A' ea.length c') (.slice B shb.length d) (.slice B' eb.length d') (.func (.func f) #[] caps) sha ea shb eb wr) ∧ Hid (wr.heap[w.heap.size + 1 + 1 + 1 + 1 + 1]? = some (.cells #[.slice A sha.length c, .slice A' ea.length c', .slice B shb.length d, .slice B' eb.length d'] 26 (0, 0)))) (fun i _ => 2 - (intOf i).toNat)
  case atStart => exact ⟨0, by omega, rfl, fun h => by omega, fun h => by omega, I1, HROW⟩
  case round =>
    clear I1 HROW
    obtain ⟨k, hk, rfl, hk0, hk1, I1, HROW⟩ := hrel
    have c0 := cell_of_row wr _ 0 _ _ (0, 0) HROW.out
    have c1 := cell_of_row wr _ 1 _ _ (0, 0) HROW.out
    have c2 := cell_of_row wr _ 2 _ _ (0, 0) HROW.out
    have c3 := cell_of_row wr _ 3 _ _ (0, 0) HROW.out
    simp only [List.getElem?_toArray, List.getElem?_cons_zero, List.getElem?_cons_succ] at c0 c1 c2 c3
    have lt := I1.out.lt
    have ltr := lt_of_block HROW.out
    obtain rfl | rfl | rfl : k = 0 ∨ k = 1 ∨ k = 2 := by omega
    · have I2 := I1.out.keep ((Fr.refl (fun _ => True) wr).alloc (.cells #[.slice A sha.length c, .slice A' ea.length c'] 26)) (fun _ _ => trivial)
      have HR2 := Lib.hid ((Below.heap_alloc wr (.cells #[.slice A sha.length c, .slice A' ea.length c'] 26) _ ltr).trans HROW.out)
      have PP := Lib.hid (may_t (wr.alloc (.cells #[.slice A sha.length c, .slice A' ea.length c'] 26)) (.slice A sha.length c) (.slice A' ea.length c') sha ea L I2.a1 I2.a2 HLA.out hL1 hl)
      rw [HRA.out] at PP
      have HI2 := Lib.hid I2
      have ltr2 := lt_of_block HR2.out
      clear I1 HROW I2
      gi_wp2_with fail
      refine ⟨trivial, ?_⟩
      with_reducible refine (callsIn_wide.2 PP.out).mono ?_
      rintro e w2 ⟨rfl, hf⟩
      have I3 := Lib.hid (HI2.out.keep hf (fun k hk => by have := HI2.out.lt; omega))
      have HR3 := Lib.hid (hf.obj HR2.out ltr2)
      clear HI2 HR2 PP hf
      by_cases h0 : ra = 0
      · subst h0
        gi_wp2_with fail
        go_roundw
        case rel => exact ⟨1, by omega, rfl, fun _ => by first | rfl | trivial, fun h => by omega, I3, HR3⟩
        case measure => first | (simp [intOf]; done) | (simp [intOf]; omega)
      · have HN : r = ra := hr.out.symm.trans ((bothE_a (by rw [HRA.out]; exact h0)).trans HRA.out)
        have x3 := I3.out.x3
        have x4 := I3.out.x4
        have d0 := x3.c0
        have d1 := x3.c1
        have f0 := x3.free 0
        have f1 := x3.free 1
        have e0 := x4.cell
        have e1 := x4.free
        have F9 := fr_put2 w2 (w.heap.size + 3) (.slice none 0 0) (.slice none 0 0)
        have y3 := x3.set2 (.slice none 0 0) (.slice none 0 0)
        have y4 := x4.fr F9 (by omega)
        have G9 := fr_set1 ((w2.setCell ⟨w.heap.size + 3, 0, none⟩ (.slice none 0 0)).setCell ⟨w.heap.size + 3, 1, none⟩ (.slice none 0 0)) (w.heap.size + 4) 0 (.int .i64 ra)
        have z3 := y3.fr G9 (by omega)
        have z4 := y4.set (.int .i64 ra)
        have F8 := (I3.out.fr.comp F9 (R := fun k => k < w.heap.size) fun k _ hk => ⟨hk, by omega⟩).comp G9 (R := fun k => k < w.heap.size) fun k _ hk => ⟨hk, by omega⟩
        gi_wp2_with fail
        exact ⟨_, results_both rfl rfl z3 z4, ⟨none, 0, 0, none, 0, 0, by rw [HN], fun _ => ⟨rfl, rfl⟩, fun h => absurd (HN.symm.trans h) h0, F8⟩⟩
    · have hra := hk0 (by omega)
      have I2 := I1.out.keep ((Fr.refl (fun _ => True) wr).alloc (.cells #[.slice B shb.length d, .slice B' eb.length d'] 26)) (fun _ _ => trivial)
      have HR2 := Lib.hid ((Below.heap_alloc wr (.cells #[.slice B shb.length d, .slice B' eb.length d'] 26) _ ltr).trans HROW.out)
      have PP := Lib.hid (may_t (wr.alloc (.cells #[.slice B shb.length d, .slice B' eb.length d'] 26)) (.slice B shb.length d) (.slice B' eb.length d') shb eb L I2.b1 I2.b2 HLB.out hL1 hl)
      rw [HRB.out] at PP
      have HI2 := Lib.hid I2
      have ltr2 := lt_of_block HR2.out
      clear I1 HROW I2
      gi_wp2_with fail
      refine ⟨trivial, ?_⟩
      with_reducible refine (callsIn_wide.2 PP.out).mono ?_
      rintro e w2 ⟨rfl, hf⟩
      have I3 := Lib.hid (HI2.out.keep hf (fun k hk => by have := HI2.out.lt; omega))
      have HR3 := Lib.hid (hf.obj HR2.out ltr2)
      clear HI2 HR2 PP hf
      by_cases h0 : rb = 0
      · subst h0
        gi_wp2_with fail
        go_roundw
        case rel => exact ⟨2, by omega, rfl, fun _ => by first | exact hra | trivial, fun _ => by first | rfl | trivial, I3, HR3⟩
        case measure => first | (simp [intOf]; done) | (simp [intOf]; omega)
      · have HN : r = rb := hr.out.symm.trans ((bothE_b (by rw [HRA.out]; exact hra) (by rw [HRB.out]; exact h0)).trans HRB.out)
        have x3 := I3.out.x3
        have x4 := I3.out.x4
        have d0 := x3.c0
        have d1 := x3.c1
        have f0 := x3.free 0
        have f1 := x3.free 1
        have e0 := x4.cell
        have e1 := x4.free
        have F9 := fr_put2 w2 (w.heap.size + 3) (.slice none 0 0) (.slice none 0 0)
        have y3 := x3.set2 (.slice none 0 0) (.slice none 0 0)
        have y4 := x4.fr F9 (by omega)
        have G9 := fr_set1 ((w2.setCell ⟨w.heap.size + 3, 0, none⟩ (.slice none 0 0)).setCell ⟨w.heap.size + 3, 1, none⟩ (.slice none 0 0)) (w.heap.size + 4) 0 (.int .i64 rb)
        have z3 := y3.fr G9 (by omega)
        have z4 := y4.set (.int .i64 rb)
        have F8 := (I3.out.fr.comp F9 (R := fun k => k < w.heap.size) fun k _ hk => ⟨hk, by omega⟩).comp G9 (R := fun k => k < w.heap.size) fun k _ hk => ⟨hk, by omega⟩
        gi_wp2_with fail
        exact ⟨_, results_both rfl rfl z3 z4, ⟨none, 0, 0, none, 0, 0, by rw [HN], fun _ => ⟨rfl, rfl⟩, fun h => absurd (HN.symm.trans h) h0, F8⟩⟩
    · have hra := hk0 (by omega)
      have hrb := hk1 (by omega)
      have I2 := I1.out
      obtain ⟨b, hb⟩ : ∃ b, decide (sha = shb) = b := ⟨_, rfl⟩
      have PP := Lib.hid (shsame_t wr (.slice A sha.length c) (.slice B shb.length d) sha shb I2.a1 I2.b1)
      rw [hb] at PP
      have HB := Lib.hid hb
      have a0 := I2.x0.c0
      have b0 := I2.x1.c0
      clear I1 HROW c0 c1 c2 c3 hb ltr
      gi_wp2_with fail
      refine ⟨trivial, ?_⟩
      with_reducible refine (callsIn_wide.2 PP.out).mono ?_
      rintro e w2 ⟨rfl, hf⟩
      have I3 := Lib.hid (I2.keep hf (fun _ _ => trivial))
      clear PP a0 b0 hf I2
      by_cases hbt : b = true
      case neg =>
        have hbf : b = false := by cases b; rfl; exact absurd rfl hbt
        clear hbt
        subst hbf
        have HN : r = 13 := hr.out.symm.trans (bothE_13 (by rw [HRA.out]; exact hra) (by rw [HRB.out]; exact hrb) (of_decide_eq_false HB.out))
        have h0 : (13 : Int) ≠ 0 := by decide
        have x3 := I3.out.x3
        have x4 := I3.out.x4
        have d0 := x3.c0
        have d1 := x3.c1
        have f0 := x3.free 0
        have f1 := x3.free 1
        have e0 := x4.cell
        have e1 := x4.free
        have F9 := fr_put2 w2 (w.heap.size + 3) (.slice none 0 0) (.slice none 0 0)
        have y3 := x3.set2 (.slice none 0 0) (.slice none 0 0)
        have y4 := x4.fr F9 (by omega)
        have G9 := fr_set1 ((w2.setCell ⟨w.heap.size + 3, 0, none⟩ (.slice none 0 0)).setCell ⟨w.heap.size + 3, 1, none⟩ (.slice none 0 0)) (w.heap.size + 4) 0 (.int .i64 13)
        have z3 := y3.fr G9 (by omega)
        have z4 := y4.set (.int .i64 13)
        have F8 := (I3.out.fr.comp F9 (R := fun k => k < w.heap.size) fun k _ hk => ⟨hk, by omega⟩).comp G9 (R := fun k => k < w.heap.size) fun k _ hk => ⟨hk, by omega⟩
        gi_wp2_with fail
        exact ⟨_, results_both rfl rfl z3 z4, ⟨none, 0, 0, none, 0, 0, by rw [HN], fun _ => ⟨rfl, rfl⟩, fun h => absurd (HN.symm.trans h) h0, F8⟩⟩
      subst hbt
      have HSH := Lib.hid (of_decide_eq_true HB.out)
      have HLEN := Lib.hid (show ea.length = eb.length by
        have h1 := (mayT_ok (by rw [HRA.out]; exact hra : mayT sha ea = 0)).2.1
        have h2 := (mayT_ok (by rw [HRB.out]; exact hrb : mayT shb eb = 0)).2.1
        rw [HSH.out] at h1
        omega)
      have HM1 := Lib.hid (show mayT sha ea = 0 by rw [HRA.out]; exact hra)
      have HM2 := Lib.hid (show mayT shb eb = 0 by rw [HRB.out]; exact hrb)
      have a0 := I3.out.x0.c0
      clear HB hk0 hk1 hk
      gi_wp2_with fail
      refine ⟨trivial, ?_⟩
      with_reducible refine (callsIn_wide.2 (sclone_calls _ (.slice A sha.length c) sha I3.out.a1 hsl)).mono ?_
      rintro e w1 ⟨v1, rfl, ho1, hf1⟩
      obtain ⟨A1, n1, c1, rfl⟩ := ho1.form
      have sz2 := I3.out.lt
      have s1 := hf1.size
      have I4 := I3.out.keep hf1 (fun k hk => by omega)
      have al := fun R => (Fr.refl R w1).alloc (.cells #[.slice A1 n1 c1, .slice none 0 0] 26)
      have I5 := Lib.hid (I4.keep (al (fun _ => True)) (fun _ _ => trivial))
      have b11 := Box2.new w1 26 (.slice A1 n1 c1) (.slice none 0 0)
      have o1 := (ho1.bd.fr (al _)).mono (T := fun k => w.heap.size + 5 ≤ k ∧ k < w1.heap.size) fun k hk => ⟨Nat.le_trans sz2 hk.1, hk.2⟩
      have a1 := I5.out.x0.c1
      have b1 := I5.out.x1.c1
      clear I3 I4 ho1 hf1 al a0
      gi_wp2_with fail
      refine ⟨trivial, ?_⟩
      with_reducible refine (callsIn_wide.2 (pairs_t _ _ _ _ _ _ _)).mono ?_
      rintro e w3 ⟨rfl, p1, p2, hf3⟩
      have I6 := I5.out.keep hf3 (fun k hk => by have := I5.out.lt; omega)
      have b113 := b11.keep hf3
      have o13 := o1.keep' hf3
      have s3 := hf3.size
      simp only [World.size_alloc] at s3 p1 p2
      have l1 := p1.lt
      have l2 := p2.lt
      obtain ⟨E1, hE1, hE1'⟩ := Rm_all I6.a2
      obtain ⟨E2, hE2, hE2'⟩ := Rm_all I6.b2
      have l5 := I6.lt
      have sb : w1.heap.size < w3.heap.size := by omega
      clear I5 b11 o1 hf3 a1 b1
      gi_wp2_with fail
      rw [← HLEN.out] at p2 hE2
      refine act_named (p := fun A => Code.wpIn _ _ _ _ _ A _) _ (fun A0 hA0 => ?_)
      refine wpIn_rangeFunc_ownH (F := Fence.wide) rfl (by omega) (gf := 139) (lb := #[.pointer (some ⟨w1.heap.size + 1, 0, none⟩), .pointer (some ⟨w1.heap.size + 1 + 1, 0, none⟩)]) (by rw [hA0]; rfl) trivial (enter_of Tryz.func139 (by decide) rfl)
        (pairs_stops (fun k => k < w3.heap.size ∧ k ≠ w1.heap.size) w3 (w1.heap.size + 1) (w1.heap.size + 1 + 1) ea.length A' B' c' d' E1 E2 hlea p1 p2 ⟨by omega, by omega⟩ ⟨by omega, by omega⟩ (fun j hj => (hE1 j hj).mono fun k hk => ⟨⟨by omega, by omega⟩, by omega⟩) (fun j hj => (hE2 j hj).mono fun k hk => ⟨⟨by omega, by omega⟩, by omega⟩)) frK_t (frK_b (by intro k hk; exact hk.1)) (Below.refl _ _) (fun _ => rfl)
        (BothL g er ea eb w1.heap.size w3.heap.size (.slice A1 n1 c1) w3) (fun cc pre W => cc = .ret ∧ (∃ i ∈ pre, er (ea.getD i zR) (eb.getD i zR) ≠ 0) ∧ Box2 W (w.heap.size + 3) 26 (.slice none 0 0) (.slice none 0 0) ∧ Box W (w.heap.size + 4) 29 (.int .i64 17) ∧ Fr (fun k => k < w.heap.size) w3 W)
        (BothL.own sb) (fun cc => fun pre W W' row hs hg hr' => ⟨hs.1, hs.2.1, grown_cells hg hr' hs.2.2.1, grown_cells hg hr' hs.2.2.2.1, hs.2.2.2.2.comp (Fr.of_grown hg) fun k _ hk => ⟨hk, fun e => by have := (hr' k e.symm).1; omega⟩⟩)
        ⟨by simp, _, b113, Own.nil _ _ _ _, Fr.refl _ _⟩
        (VarY w1.heap.size 26 (.slice A1 n1 c1) w3.heap.size E1 E2 (fun x p q => { tmps := (((A0.tmps.setIfInBounds 47 (E1 x)).setIfInBounds 48 (E2 x)).setIfInBounds 12 p).setIfInBounds 13 q, defers := [] })) (fun x a => VarY.own _ _ _ _ _ _ _ _ x a) ?assign ?body ?done ?stop
      case assign =>
        intro l pre x W K hI hK
        subst hA0
        obtain ⟨P, n, d1, Q, m, o, hEx, g1, g2⟩ := hE1' x
        obtain ⟨P', n', d1', Q', m', o', hEx', g1', g2'⟩ := hE2' x
        generalize (ea.getD x zR).1 = sx at hEx
        generalize (eb.getD x zR).1 = sy at hEx'
        have HK := Lib.hid hK
        obtain ⟨h00, v2, i1, i2, i3⟩ := hI
        have al := fun R => ((Fr.refl R W).alloc (.cells #[.bool sx, .slice P n d1, .slice Q m o] 54)).alloc (.cells #[.bool sy, .slice P' n' d1', .slice Q' m' o'] 54)
        have HI := Lib.hid (show BothL g er ea eb w1.heap.size w3.heap.size (.slice A1 n1 c1) w3 pre ((W.alloc (.cells #[.bool sx, .slice P n d1, .slice Q m o] 54)).alloc (.cells #[.bool sy, .slice P' n' d1', .slice Q' m' o'] 54)) from ⟨h00, v2, i1.fr (al (fun _ => True)) trivial, i2.fr (al _), (i3.alloc _).alloc _⟩)
        have HB := Lib.hid (And.intro (i1.fr (al (fun _ => True)) trivial) i2.lt)
        have HX := Lib.hid (And.intro ((Box3.new W 54 (.bool sx) (.slice P n d1) (.slice Q m o)).alloc (.cells #[.bool sy, .slice P' n' d1', .slice Q' m' o'] 54)) (Box3.new (W.alloc (.cells #[.bool sx, .slice P n d1, .slice Q m o] 54)) 54 (.bool sy) (.slice P' n' d1') (.slice Q' m' o')))
        have hsz := i3.size
        clear hK g1 g2 g1' g2' i1 i2 i3 h00
        gi_wp2
        exact HK.out _ _ ((keeps_alloc _ _ _).trans (keeps_alloc _ _ _)) (al _) HI.out ⟨W.heap.size, sx, P, n, d1, Q, m, o, W.heap.size + 1, sy, P', n', d1', Q', m', o', v2, by simp only [hEx, hEx', List.setIfInBounds_toArray, List.set_cons_zero, List.set_cons_succ], hsz, by omega, hEx, hEx', HX.out.1, (by have := HX.out.2; rwa [World.size_alloc] at this), HB.out.1, fun g hg => by have := HB.out.2 g hg; omega⟩
      case body =>
        rintro l pre x a' W hl' - ⟨h00, v2, i1, o2, i3⟩ ⟨b, s, P, n, d1, Q, m, o, b', s', P', n', d1', Q', m', o', v2', rfl, hb, hb', hEx, hEx', hx, hx', i1x, hlt2⟩ hpre
        subst hA0
        obtain rfl := i1.same i1x
        obtain ⟨A2, n2, c2, rfl⟩ := o2.form
        obtain ⟨P1, y1, y2, Q1, y3, y4, hEy, r1, r2⟩ := (hE1' x).fr (i3.mono fun k _ hk => ⟨by omega, by omega⟩)
        obtain ⟨P2, z1, z2, Q2, z3, z4, hEz, r3, r4⟩ := (hE2' x).fr (i3.mono fun k _ hk => ⟨by omega, by omega⟩)
        have hly := getD_len HLA.out x
        have hlz := getD_len HLB.out x
        have HPRE := Lib.hid h00
        obtain ⟨y, hy⟩ : ∃ y, ea.getD x zR = y := ⟨_, rfl⟩
        obtain ⟨z, hz⟩ : ∃ z, eb.getD x zR = z := ⟨_, rfl⟩
        have HG := Lib.hid (show zipG g ea eb x = g y z by unfold zipG; rw [hy, hz])
        have HYZ := Lib.hid (And.intro hy hz)
        rw [hy] at hEy r1 r2 hly
        rw [hz] at hEz r3 r4 hlz
        rw [hEy] at hEx
        rw [hEz] at hEx'
        simp only [Value.agg.injEq, Array.mk.injEq, List.cons.injEq, Value.bool.injEq, Value.slice.injEq, and_true] at hEx hEx'
        obtain ⟨e1, ⟨e2, e3, e4⟩, e5, e6, e7⟩ := hEx
        obtain ⟨e1', ⟨e2', e3', e4'⟩, e5', e6', e7'⟩ := hEx'
        subst e2 e3 e4 e5 e6 e7 e2' e3' e4' e5' e6' e7'
        rw [← e1] at hx
        rw [← e1'] at hx'
        clear e1 e1' hy hz h00 i1x
        obtain ⟨ez, hez⟩ : ∃ r, er y z = r := ⟨_, rfl⟩
        have q := hF.out W y z (.slice P1 y1 y2) (.slice Q1 y3 y4) (.slice P2 z1 z2) (.slice Q2 z3 z4) (fun k => k < w.heap.size) (I6.fr.comp i3 (R := fun k => k < w.heap.size) fun k _ hk => ⟨hk, by omega, by omega⟩) r1 r2 r3 r4 hly hlz
        rw [hez] at q
        have QQ := Lib.hid (CallsIn.inRound l (callsIn_wide.2 q : CallsIn Fence.wide 0 _ _ _ _ _))
        have HEZ := Lib.hid hez
        clear q r1 r2 r3 r4 hly hlz hez
        have k2 := (I6.x2.fr i3 ⟨by omega, by omega⟩).cell
        have m0 := hx.c0
        have m1 := hx.c1
        have m2 := hx.c2
        have t0 := hx'.c0
        have t1 := hx'.c1
        have t2 := hx'.c2
        generalize y.1 = sy at hx m0 QQ hEy
        generalize z.1 = sz at hx' t0 QQ hEz
        simp only [hEy, hEz, List.setIfInBounds_toArray, List.set_cons_zero, List.set_cons_succ]
        gi_wp2_with fail
        refine ⟨trivial, ?_⟩
        refine QQ.out.mono ?_
        rintro e W2 ⟨s9, A9, i9, j9, B9, k9, l9, rfl, hyes, hf⟩
        have sW := i3.size
        have sW2 := hf.size
        clear QQ k2 m0 m1 m2 t0 t1 t2
        by_cases h0 : ez = 0
        · subst h0
          obtain ⟨hs9, hol⟩ := hyes rfl
          have HS9 := Lib.hid hs9
          clear hs9 hyes
          have al := fun R => (Fr.refl R W2).alloc (.cells #[.bool s9, .slice A9 i9 j9, .slice B9 k9 l9] 54)
          have i1' := (i1.keep hf).keep (al _)
          have o2' := (o2.keep' hf).keep' (al _)
          have olA := hol.num.keep' (al _)
          have olB := hol.den.keep' (al _)
          have lt2 := o2.lt
          have in2 := o2.in_
          have e0 := i1'.c1
          have e1 := i1'.free 1
          have HLn := Lib.hid (show ((pre.map (zipG g ea eb)).length + 1) * 56 ≤ 140737488355328 ∧ (pre.map (zipG g ea eb)).length + 1 ≤ 9223372036854775807 by rw [List.length_map]; omega)
          have sal : (W2.alloc (.cells #[.bool s9, .slice A9 i9 j9, .slice B9 k9 l9] 54)).heap.size = W2.heap.size + 1 := by simp
          gi_wp2_with (refine wpListIn_push1 rzT rfl rfl (v := .slice A2 n2 c2) (y := g y z) (T := fun k => W.heap.size ≤ k) (cs := [.bool s9, .slice A9 i9 j9, .slice B9 k9 l9]) rfl (by rw [sal]; rfl) o2' ⟨_, _, by rw [HS9.out], olA.sl_fz, olB.sl_fz⟩ (fun k hk _ => ⟨Nat.le_trans sW hk, fun e => by have := lt2 k e.symm; omega⟩) (fun k hk => by omega) HLn.out.1 HLn.out.2 ?_; intro v5 u2 ho hfr hat; obtain ⟨A3, n3, c3, rfl⟩ := ho.form; have q5 := i1'.fr hfr (fun e => by have := in2 _ e.symm; omega); have e2 := q5.c1; have e3 := q5.free 1)
          have F9 := fr_set1 u2 w1.heap.size 1 (.slice A3 n3 c3)
          have kp := keeps_push w3.heap.size o2' hfr
          have G3 : Fr (fun k => k < w3.heap.size ∧ k ≠ w1.heap.size) W u2 := ((hf.mono (T := fun k => k < w3.heap.size ∧ k ≠ w1.heap.size) fun k hk _ => hk).alloc _).comp hfr fun k _ hk => ⟨hk, fun e => by have := in2 _ e.symm; omega⟩
          refine ⟨(((keeps_fr _ hf).trans (keeps_alloc _ _ _)).trans kp).trans (keeps_cell _ _ _ _), G3.comp F9 fun k _ hk => ⟨hk, by omega⟩, ⟨fun i hi => ?_, _, q5.set1 _, ?_, (i3.trans G3).comp F9 fun k _ hk => ⟨hk, by omega⟩⟩⟩
          · rcases List.mem_append.1 hi with hi | hi
            · exact HPRE.out i hi
            · simp only [List.mem_singleton] at hi
              subst hi
              rw [HYZ.out.1, HYZ.out.2]
              exact HEZ.out
          · rw [List.map_append, List.map_singleton, HG.out]
            exact ho.past F9 (fun k hk => by omega)
        · have h17 : ez = 17 := by
            rcases her y z with h | h
            · exact absurd (HEZ.out.symm.trans h) h0
            · exact HEZ.out.symm.trans h
          subst h17
          have x3 := (I6.x3.fr i3 ⟨by omega, by omega⟩).keep hf
          have x4 := (I6.x4.fr i3 ⟨by omega, by omega⟩).fr hf (by omega)
          have x3a := x3.alloc (.cells #[.bool s9, .slice A9 i9 j9, .slice B9 k9 l9] 54)
          have x4a := x4.alloc (.cells #[.bool s9, .slice A9 i9 j9, .slice B9 k9 l9] 54)
          have d0 := x3a.c0
          have d1 := x3a.c1
          have f0 := x3a.free 0
          have f1 := x3a.free 1
          have e0 := x4a.cell
          have e1 := x4a.free
          have F7 := fr_put2 (W2.alloc (.cells #[.bool s9, .slice A9 i9 j9, .slice B9 k9 l9] 54)) (w.heap.size + 3) (.slice none 0 0) (.slice none 0 0)
          have G7 := fr_set1 (((W2.alloc (.cells #[.bool s9, .slice A9 i9 j9, .slice B9 k9 l9] 54)).setCell ⟨w.heap.size + 3, 0, none⟩ (.slice none 0 0)).setCell ⟨w.heap.size + 3, 1, none⟩ (.slice none 0 0)) (w.heap.size + 4) 0 (.int .i64 17)
          have z3 := (x3a.set2 (.slice none 0 0) (.slice none 0 0)).fr G7 (by omega)
          have z4 := (x4a.fr F7 (by omega)).set (.int .i64 17)
          have F6 := (((i3.comp hf (R := fun k => k < w.heap.size) fun k _ hk => ⟨⟨by omega, by omega⟩, by omega⟩).alloc (.cells #[.bool s9, .slice A9 i9 j9, .slice B9 k9 l9] 54)).comp F7 (R := fun k => k < w.heap.size) fun k _ hk => ⟨hk, by omega⟩).comp G7 (R := fun k => k < w.heap.size) fun k _ hk => ⟨hk, by omega⟩
          gi_wp2_with fail
          exact ⟨((((keeps_fr _ hf).trans (keeps_alloc _ _ _)).trans (keeps_cell _ _ _ _)).trans (keeps_cell _ _ _ _)).trans (keeps_cell _ _ _ _), rfl, ⟨x, by simp, by rw [HYZ.out.1, HYZ.out.2, HEZ.out]; decide⟩, z3, z4, F6⟩
      case done =>
        rintro D ys W hD rfl ⟨h00, v2, i1, o2, i3⟩ hK
        subst hA0
        have HN : r = 0 := hr.out.symm.trans (bothE_0 HM1.out HM2.out HSH.out fun i hi => h00 i (List.mem_range.2 hi))
        have h0 : ¬ (r ≠ 0) := fun h => h HN
        obtain ⟨A2, n2, c2, rfl⟩ := o2.form
        have x3 := I6.x3.fr i3 ⟨by omega, by omega⟩
        have x4 := I6.x4.fr i3 ⟨by omega, by omega⟩
        have o1 := o13.fr (i3.mono fun k _ hk => ⟨by omega, by omega⟩)
        have F4 := I6.fr.comp i3 (R := fun k => k < w.heap.size) fun k _ hk => ⟨hk, by omega, by omega⟩
        have c0 := i1.c0
        have c1' := i1.c1
        have d0 := x3.c0
        have d1 := x3.c1
        have f0 := x3.free 0
        have f1 := x3.free 1
        have e0 := x4.cell
        have e1 := x4.free
        have F7 := fr_put2 W (w.heap.size + 3) (.slice A1 n1 c1) (.slice A2 n2 c2)
        have G7 := fr_set1 ((W.setCell ⟨w.heap.size + 3, 0, none⟩ (.slice A1 n1 c1)).setCell ⟨w.heap.size + 3, 1, none⟩ (.slice A2 n2 c2)) (w.heap.size + 4) 0 (.int .i64 0)
        have z3 := (x3.set2 (.slice A1 n1 c1) (.slice A2 n2 c2)).fr G7 (by omega)
        have z4 := (x4.fr F7 (by omega)).set (.int .i64 0)
        have F8 := (F4.comp F7 (R := fun k => k < w.heap.size) fun k _ hk => ⟨hk, by omega⟩).comp G7 (R := fun k => k < w.heap.size) fun k _ hk => ⟨hk, by omega⟩
        have q1 := (o1.past F7 fun k hk => by omega).past G7 fun k hk => by omega
        have q2 := (o2.past F7 fun k hk => by omega).past G7 fun k hk => by omega
        clear h00
        gi_wp2
        generalize hWf : ((W.setCell ⟨w.heap.size + 3, 0, none⟩ (.slice A1 n1 c1)).setCell ⟨w.heap.size + 3, 1, none⟩ (.slice A2 n2 c2)).setCell ⟨w.heap.size + 4, 0, none⟩ (.int .i64 0) = Wf at z3 z4 F8 q1 q2 ⊢
        have hK2 : Wf.heap[D]? = some (.deferred (some [])) := by
          rw [← hWf]
          exact (KeepsOthers.setCell _ ⟨w.heap.size + 4, 0, none⟩ _).same D _ ((KeepsOthers.setCell _ ⟨w.heap.size + 3, 1, none⟩ _).same D _ ((KeepsOthers.setCell W ⟨w.heap.size + 3, 0, none⟩ (.slice A1 n1 c1)).same D _ hK rfl) rfl) rfl
        have gr := grownBy_putObj' Wf D (.deferred none)
        have hrw : ∀ r, some D = some r → 0 ≤ r ∧ ∃ o : Obj, Wf.heap[r]? = some o ∧ o.isCells = false := fun r e => by cases e; exact ⟨Nat.zero_le _, _, hK2, rfl⟩
        exact leaves_mark hK2 rfl (results_both rfl rfl (grown_cells gr hrw z3) (grown_cells gr hrw z4)) ⟨_, _, _, _, _, _, by rw [HN], fun h => absurd h h0, fun _ => ⟨((q1.turn (fun _ _ _ h => Kd.int_any h) gr hrw).mono fun k hk => by omega), ((q2.turn (fun _ _ _ => RZ_cl) gr hrw).mono fun k hk => by omega)⟩, F8.comp (Fr.of_grown gr) fun k hk hk' => ⟨hk', fun e => by cases e; omega⟩⟩ rfl
      case stop =>
        rintro D cc pre W hD hpre ⟨rfl, ⟨i, hi, hno⟩, z3, z4, hF⟩ hK
        subst hA0
        have HN : r = 17 := hr.out.symm.trans (bothE_17 HM1.out HM2.out HSH.out fun h => hno (h i (List.mem_range.1 (hpre.subset hi))))
        have F8 := I6.fr.comp hF (R := fun k => k < w.heap.size) fun k _ hk => ⟨hk, hk⟩
        clear hno
        gi_wp2
        have gr := grownBy_putObj' W D (.deferred none)
        have hrw : ∀ r, some D = some r → 0 ≤ r ∧ ∃ o : Obj, W.heap[r]? = some o ∧ o.isCells = false := fun r e => by cases e; exact ⟨Nat.zero_le _, _, hK, rfl⟩
        exact leaves_mark hK rfl (results_both rfl rfl (grown_cells gr hrw z3) (grown_cells gr hrw z4)) ⟨none, 0, 0, none, 0, 0, by rw [HN], fun _ => ⟨rfl, rfl⟩, fun h => by rw [HN] at h; exact absurd h (by decide), F8.comp (Fr.of_grown gr) fun k hk hk' => ⟨hk', fun e => by cases e; omega⟩⟩ rfl
end Go.Proofs.YtlppcfeimpcbjaaGreat


/- point.Div. -/
namespace Go.Proofs.YtlppcfeimpcbjaaGreat
open Go.RowKit

def divG (x y : RatL) : RatL := canR (qOf x / qOf y)
def divR (_ y : RatL) : Int := if qOf y = 0 then 17 else 0
end Go.Proofs.YtlppcfeimpcbjaaGreat


/- point.Add, Sub, Mul: printed by gen_ptj.py. -/
namespace Go.Proofs.YtlppcfeimpcbjaaGreat
open Go.RowKit

/-- What point.sure answers. -/
def Sure (f : FuncId) (u : World) (v : Value) : Prop := ∃ b, v = .func (.func 119) #[] #[.pointer (some ⟨b, 0, none⟩)] ∧ Box u b 82 (.func (.func f) #[] #[])
theorem Sure.keep {f : FuncId} {v : Value} {u u' : World} (hf : Fr (fun k => k < u.heap.size) u u') (h : Sure f u v) : Sure f u' v := by
  obtain ⟨b, e, h⟩ := h
  exact ⟨b, e, h.fr hf h.lt⟩
def EachV (n : Nat) (sh : List Int) (es : List RatL) (r : Int) (u : World) (v : Value) : Prop := ∃ A i j B k l, v = .tuple #[.agg #[.slice A i j, .slice B k l], .int .i64 r] ∧ (r ≠ 0 → Value.slice A i j = .slice none 0 0 ∧ Value.slice B k l = .slice none 0 0) ∧ (r = 0 → Own Im 3 (fun k => n ≤ k) u (.slice A i j) sh ∧ Own RZ 54 (fun k => n ≤ k) u (.slice B k l) es)
theorem EachV.keep {n : Nat} {sh : List Int} {es : List RatL} {r : Int} {v : Value} {u u' : World} (hf : Fr (fun k => k < u.heap.size) u u') (h : EachV n sh es r u v) : EachV n sh es r u' v := by
  obtain ⟨A, i, j, B, k, l, e, h1, h2⟩ := h
  exact ⟨A, i, j, B, k, l, e, h1, fun h => ⟨(h2 h).1.keep' hf, (h2 h).2.keep' hf⟩⟩
def noR (_ _ : RatL) : Int := 0

def addG (x y : RatL) : RatL := canR (qOf x + qOf y)
set_option maxHeartbeats 4000000 in
theorem padd_t {S T U V : Nat → Prop} (w : World) (va vea vb veb : Value) (sha shb : List Int) (ea eb : List RatL) (L : Nat) (r : Int) (hr : Hid (bothE noR sha ea shb eb = r)) (ha : Sl Im S w va sha) (hea : Sl Rm T w vea ea) (hb : Sl Im U w vb shb) (heb : Sl Rm V w veb eb)
    (hLa : ∀ x ∈ ea, x.2.1.length ≤ L ∧ x.2.2.length ≤ L) (hLb : ∀ x ∈ eb, x.2.1.length ≤ L ∧ x.2.2.length ≤ L) (hL1 : 1 ≤ L) (hl : L ≤ 104857600) (hsl : sha.length ≤ 1099511627000) (hel : ea.length ≤ 1099511627000) :
    Calls Tryz.prog 33 #[.agg #[va, vea], .agg #[vb, veb]] w (EachR w sha ((List.range ea.length).map (zipG addG ea eb)) r) := by
  obtain ⟨A, c, rfl, _, _, hlx⟩ := ha.slice
  obtain ⟨A', c', rfl, _, _, hly⟩ := hea.slice
  obtain ⟨B, d, rfl, _, _, _⟩ := hb.slice
  obtain ⟨B', d', rfl, _, _, _⟩ := heb.slice
  have F := (((Fr.refl (fun k => k < w.heap.size) w).alloc (.cells #[.slice A sha.length c, .slice A' ea.length c'] 26)).alloc (.cells #[.slice B shb.length d, .slice B' eb.length d'] 26)).alloc (.cells #[.slice none 0 0, .slice none 0 0] 26)
  have x0 := ((Box2.new w 26 (.slice A sha.length c) (.slice A' ea.length c')).alloc (.cells #[.slice B shb.length d, .slice B' eb.length d'] 26)).alloc (.cells #[.slice none 0 0, .slice none 0 0] 26)
  have x1 := (Box2.new (w.alloc (.cells #[.slice A sha.length c, .slice A' ea.length c'] 26)) 26 (.slice B shb.length d) (.slice B' eb.length d')).alloc (.cells #[.slice none 0 0, .slice none 0 0] 26)
  have b2 := Box2.new ((w.alloc (.cells #[.slice A sha.length c, .slice A' ea.length c'] 26)).alloc (.cells #[.slice B shb.length d, .slice B' eb.length d'] 26)) 26 (.slice none 0 0) (.slice none 0 0)
  simp only [World.size_alloc] at x1 b2
  have HS := Lib.hid (ha.low Im_pos)
  have HE := Lib.hid (hea.low Rm_pos)
  have HS2 := Lib.hid (hb.low Im_pos)
  have HE2 := Lib.hid (heb.low Rm_pos)
  have HLA := Lib.hid hLa
  have HLB := Lib.hid hLb
  clear ha hea hb heb hLa hLb
  go_enter Tryz.func33, Tryz.ntmps33
  go_wp2_with fail
  generalize ((w.alloc (.cells #[.slice A sha.length c, .slice A' ea.length c'] 26)).alloc (.cells #[.slice B shb.length d, .slice B' eb.length d'] 26)).alloc (.cells #[.slice none 0 0, .slice none 0 0] 26) = W0 at F x0 x1 b2 ⊢
  have DR := fun R => (Fr.refl R W0).drew
  replace x0 := x0.keep (DR _)
  replace x1 := x1.keep (DR _)
  replace b2 := b2.keep (DR _)
  replace F := F.drew
  clear DR
  have KS : ∀ u, Fr (fun k => k < W0.drew.heap.size) W0.drew u → u.cell? ⟨w.heap.size, 0, none⟩ = some (.slice A sha.length c) ∧ u.cell? ⟨w.heap.size, 1, none⟩ = some (.slice A' ea.length c') ∧ u.cell? ⟨w.heap.size + 1, 0, none⟩ = some (.slice B shb.length d) ∧ u.cell? ⟨w.heap.size + 1, 1, none⟩ = some (.slice B' eb.length d') := fun u h => ⟨(x0.keep h).c0, (x0.keep h).c1, (x1.keep h).c0, (x1.keep h).c1⟩
  refine wpTill.begin (fun u => u.cell? ⟨w.heap.size, 0, none⟩ = some (.slice A sha.length c) ∧ u.cell? ⟨w.heap.size, 1, none⟩ = some (.slice A' ea.length c') ∧ u.cell? ⟨w.heap.size + 1, 0, none⟩ = some (.slice B shb.length d) ∧ u.cell? ⟨w.heap.size + 1, 1, none⟩ = some (.slice B' eb.length d')) 6 (by kernel_rfl) ?_
  change wpTill _ _ _ _ _ _ 8 _ _ _
  refine wpTill.free (jj := 6) (m := 2) [(0, Fact.eq (.agg #[.slice A sha.length c, .slice A' ea.length c'])),
      (1, Fact.eq (.agg #[.slice B shb.length d, .slice B' eb.length d'])),
      (2, Fact.mem (Sure 47) Sure.keep),
      (3, Fact.mem (EachV W0.drew.heap.size sha ((List.range ea.length).map (zipG addG ea eb)) r) EachV.keep),
      (4, Fact.fst 3),
      (5, Fact.snd 3)] [] [0, 0, 0, 7, 15, 15, 63, 127] [] ?_ (by kernel_rfl) (by kernel_rfl) (by kernel_rfl) [(0, some 6), (1, some 7), (2, some 8), (3, some 9), (4, some 10), (5, some 11)] (by kernel_rfl) ?hA ?hQ KS (by kernel_rfl) ?steps ?looses ?cont
  case hQ => exact fun _ _ _ _ _ h => h
  case hA =>
    intro vs
    simp only [fillD, List.foldl_cons, List.foldl_nil, Act.put, List.setIfInBounds_toArray, List.set_cons_zero, List.set_cons_succ]
    exact rfl
  case steps =>
    refine ⟨?_, ?_, ?_, ?_, ?_, ?_, trivial⟩
    · rintro vs u ⟨h0, h1, h2, h3, h4, h5, -⟩ G
      obtain ⟨o0, o1, o2, o3⟩ := KS u G
      exact stepAt.pure (v := .agg #[.slice A sha.length c, .slice A' ea.length c']) rfl rfl (by go_simp) rfl
    · rintro vs u ⟨h0, h1, h2, h3, h4, h5, -⟩ G
      obtain ⟨o0, o1, o2, o3⟩ := KS u G
      exact stepAt.pure (v := .agg #[.slice B shb.length d, .slice B' eb.length d']) rfl rfl (by go_simp) rfl
    · rintro vs u ⟨h0, h1, h2, h3, h4, h5, -⟩ G
      refine stepAt.call (f := 80) (args := #[.func (.func 47) #[] #[]]) rfl rfl (by go_simp) ?_
      refine (sure_t u 47).mono ?_
      rintro e u' ⟨rfl, hb, hf⟩
      exact ⟨_, rfl, hf, _, rfl, hb⟩
    · rintro vs u ⟨h0, h1, h2, h3, h4, h5, -⟩ G
      refine stepAt.call (f := 79) (args := #[vs 0, vs 1, vs 2]) rfl rfl (by go_simp) ?_
      obtain ⟨b, e2, hb⟩ := h2 rfl
      rw [show vs 0 = .agg #[.slice A sha.length c, .slice A' ea.length c'] from h0 rfl, show vs 1 = .agg #[.slice B shb.length d, .slice B' eb.length d'] from h1 rfl, show vs 2 = _ from e2]
      refine (both_t 119 #[.pointer (some ⟨b, 0, none⟩)] addG noR (fun args u => by go_simp) u (.slice A sha.length c) (.slice A' ea.length c') (.slice B shb.length d) (.slice B' eb.length d') sha shb ea eb L r hr (HS.out.fr (fr_then F G)) (HE.out.fr (fr_then F G)) (HS2.out.fr (fr_then F G)) (HE2.out.fr (fr_then F G)) HLA.out HLB.out hL1 hl (fun y z => .inl rfl) hsl hel (Lib.hid fun u2 x y vn vd un ud X hf q1 q2 q3 q4 hx hy =>
        sure1_t u2 47 addG (fun args u => by go_simp) x y vn vd un ud X b (hb.fr hf hb.lt) q1 q2 q3 q4 (fun u3 hf3 => (radd_n u3 x.1 y.1 vn vd un ud (qOf x) (qOf y) _ _ _ _ L (ri_x (q1.keep' Lm_pos (hf3.mono fun k hk _ => hk)) (q2.keep' Lm_pos (hf3.mono fun k hk _ => hk)) hx) (ri_x (q3.keep' Lm_pos (hf3.mono fun k hk _ => hk)) (q4.keep' Lm_pos (hf3.mono fun k hk _ => hk)) hy) hL1 hl).mono fun e u4 ⟨v1, v2, he, hv, h5⟩ => ⟨v1, v2, he, hv.ol, h5⟩))).mono ?_
      rintro e u' ⟨A1, i1, j1, B1, k1, l1, rfl, hno, hyes, hf⟩
      have sz := G.size
      exact ⟨_, rfl, hf, _, _, _, _, _, _, rfl, hno, fun h => ⟨(hyes h).1.mono fun k hk => by omega, (hyes h).2.mono fun k hk => by omega⟩⟩
    · rintro vs u ⟨h0, h1, h2, h3, h4, h5, -⟩ G
      obtain ⟨A4, n4, c4, B4, m4, k4, e3, -⟩ := h3 rfl
      replace e3 : vs 3 = _ := e3
      exact stepAt.pure (v := .agg #[.slice A4 n4 c4, .slice B4 m4 k4]) rfl rfl (by simp only [e3]; go_simp) ⟨_, _, e3, rfl⟩
    · rintro vs u ⟨h0, h1, h2, h3, h4, h5, -⟩ G
      obtain ⟨A4, n4, c4, B4, m4, k4, e3, -⟩ := h3 rfl
      replace e3 : vs 3 = _ := e3
      exact stepAt.pure (v := .int .i64 r) rfl rfl (by simp only [e3]; go_simp) ⟨_, _, e3, rfl⟩
  case looses =>
    exact trivial
  case cont =>
    rintro vs u ⟨h0, h1, h2, h3, h4, h5, -⟩ G
    obtain ⟨A4, n4, c4, B4, m4, k4, e3, hno, hyes⟩ := h3
    replace e3 : vs 3 = _ := e3
    obtain ⟨x6, z6, a6, e6⟩ := h4
    obtain ⟨x7, z7, a7, e7⟩ := h5
    have a6 := (e3.symm.trans a6)
    have a7 := (e3.symm.trans a7)
    cases a6
    cases a7
    replace e6 : vs 4 = _ := e6
    replace e7 : vs 5 = _ := e7
    simp only [e3, e6, e7]
    clear e3 e6 e7 h0 h1 h2
    have l2 := b2.lt
    replace b2 := b2.keep G
    replace F := fr_then F G
    have g0 := b2.free 0
    have g1 := b2.free 1
    have g2 := b2.c0
    have g3 := b2.c1
    refine wpTill.next 6 rfl (by kernel_rfl) (by rfl) (fun K hK => ?_)
    go_simp
    refine hK _ _ (no_wait (by kernel_rfl)) ?_
    clear hK K
    refine wpTill.next 7 rfl (by kernel_rfl) (by rfl) (fun K hK => ?_)
    go_simp
    refine hK _ _ (no_wait (by kernel_rfl)) ?_
    clear hK K
    refine wpTill.done (by kernel_rfl) ?_
    have B9 := b2.set2 (.slice A4 n4 c4) (.slice B4 m4 k4)
    have F9 := fr_put2 u (w.heap.size + 2) (.slice A4 n4 c4) (.slice B4 m4 k4)
    have sz := F.size
    have szd := x1.lt
    have szw : w.heap.size ≤ W0.drew.heap.size := by omega
    go_wp2_with fail
    refine bodyPost_ret (results_cell2_tmp rfl rfl B9 Tryz.underlying26 ten2) rfl ?_
    exact ⟨_, _, _, _, _, _, rfl, hno, fun h => ⟨((hyes h).1.past F9 fun k hk => by omega).mono fun k hk => by omega, ((hyes h).2.past F9 fun k hk => by omega).mono fun k hk => by omega⟩, F.comp F9 fun k _ hk => ⟨hk, by omega⟩⟩

def subG (x y : RatL) : RatL := canR (qOf x - qOf y)
def mulG (x y : RatL) : RatL := canR (qOf x * qOf y)
end Go.Proofs.YtlppcfeimpcbjaaGreat

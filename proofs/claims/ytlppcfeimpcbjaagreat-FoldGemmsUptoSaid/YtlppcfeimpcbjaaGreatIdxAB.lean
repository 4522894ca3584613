/- Texts merged: IdxA, IdxB. -/
import Derived.Test.YtlppcfeimpcbjaaGreatIdx
import Derived.Test.YtlppcfeimpcbjaaGreatTenUZ
import Derived.Laws.OwnMore
set_option linter.unusedSimpArgs false
set_option linter.unusedVariables false

/- The document's indexes: Next, Indexes, SameList, Offset. -/
namespace Go.Proofs.YtlppcfeimpcbjaaGreat
open Go.RowKit

theorem Own.int_at {e : TypeId} {S : Nat → Prop} {w : World} {A : Option Addr} {n c : Nat} {xs : List Int} (h : Own Im e S w (.slice A n c) xs) {j : Nat} (hj : j < xs.length) : ∃ g, A = some ⟨g, 0, none⟩ ∧ S g ∧ g < w.heap.size ∧ w.cell? ⟨g, j, none⟩ = some (.int .i64 xs[j]) ∧ w.frozen? ⟨g, j, none⟩ = false ∧
    ∀ x : Int, -9223372036854775808 ≤ x → x < 9223372036854775808 → Own Im e S (w.setCell ⟨g, j, none⟩ (.int .i64 x)) (.slice A n c) (xs.set j x) := by
  have hlt := h.lt
  obtain ⟨cells, h1, h2, h3⟩ := h
  have h1' := h1
  rcases h1.2 with ⟨_, hz⟩ | ⟨g, cap, cur, he, hb, hg, hcap, hmax, hsz, htake⟩
  · omega
  · cases he
    have hget : ∀ (i : Nat) (x : Int), xs[i]? = some x → cells[i]? = some (.int .i64 x) := fun i x hx => by
      obtain ⟨cs, ⟨rfl, _⟩, hu⟩ := h3 i x hx
      have := hu 0 _ rfl
      simpa [Im, Kd.int] using this
    refine ⟨g, rfl, h2 g rfl, hlt g rfl, ?_, h1'.frozenAt j, fun x hx1 hx2 => ⟨cells.set j (.int .i64 x), ?_, h2, fun i y hy => ?_⟩⟩
    · rw [h1'.cellAt j (by show j < xs.length * 1; omega)]
      exact hget j _ (by simp [hj])
    · have := (h1'.stored j (.int .i64 x)).1
      rw [List.length_set]
      exact this
    · by_cases hij : i = j
      · subst hij
        rw [List.getElem?_set_self hj] at hy
        cases hy
        refine ⟨[.int .i64 x], ⟨rfl, hx1, hx2⟩, fun k u hk => ?_⟩
        have hk0 : k = 0 := by
          have := (List.getElem?_eq_some_iff.1 hk).1
          simp at this; exact this
        subst hk0
        simp at hk
        subst hk
        have : i < cells.length := by
          have := (List.getElem?_eq_some_iff.1 (hget i xs[i] (by simp [hj]))).1
          exact this
        simp [Im, Kd.int, this]
      · rw [List.getElem?_set_ne (fun e => hij e.symm)] at hy
        obtain ⟨cs, ⟨rfl, hb1⟩, hu⟩ := h3 i y hy
        refine ⟨_, ⟨rfl, hb1⟩, fun k u hk => ?_⟩
        have hk0 : k = 0 := by
          have := (List.getElem?_eq_some_iff.1 hk).1
          simp at this; exact this
        subst hk0
        have := hu 0 u hk
        simp only [Im, Kd.int, Nat.mul_one, Nat.add_zero] at this ⊢
        rw [List.getElem?_set_ne (fun e => hij e.symm)]
        exact this

theorem iset_mid (a b : List Int) (x y : Int) : (a ++ x :: b).set a.length y = a ++ y :: b := by simp
theorem itake_mid {l r : List Int} {j : Nat} (hj : j < l.length) (x y : Int) (hx : l[j] = x) : (l.take (j + 1) ++ r).set j y = l.take j ++ y :: r := by
  have e : l.take (j + 1) ++ r = l.take j ++ x :: r := by rw [List.take_succ_eq_append_getElem hj, hx]; simp
  have hl : (l.take j).length = j := by rw [List.length_take]; omega
  have := iset_mid (l.take j) r x y
  rw [hl] at this
  rw [e, this]

set_option maxHeartbeats 4000000 in
theorem next_t {S T : Nat → Prop} (w : World) (va vb : Value) (sh idx : List Int) (ha : Sl Im S w va sh) (hb : Sl Im T w vb idx) (hin : inL sh idx) (hs : sh.length ≤ 1099511627000) :
    Calls Tryz.prog 102 #[va, vb] w fun e w' => ∃ v, e = .returned (.tuple #[v, .bool (nextL sh idx).2]) ∧ Own Im 3 (fun k => w.heap.size ≤ k) w' v (nextL sh idx).1 ∧ Fr (fun k => k < w.heap.size) w w' := by
  have hl := inL_len hin
  obtain ⟨A, c, rfl, _, _, hlx⟩ := ha.slice
  obtain ⟨A', c', rfl, _, _, hly⟩ := hb.slice
  have hbA := Kd.int_all ha
  have HA := Lib.hid (ha.low Im_pos)
  have HB := Lib.hid (hb.low Im_pos)
  have HL := Lib.hid hl
  have HBA := Lib.hid hbA
  have HN := Lib.hid (show (([] : List Int).length + idx.length) * 8 ≤ 140737488355328 ∧ ([] : List Int).length + idx.length ≤ 9223372036854775807 by simp; omega)
  have HI := Lib.hid hin
  clear ha hb hin hl hbA
  go_enter Tryz.func102, Tryz.ntmps102
  go_wp2_with (at_builtin; refine wpList_push (v := .slice none 0 0) imT2 rfl rfl rfl rfl (Own.nil Im 3 (fun k => w.heap.size ≤ k) _) HB.out (fun y cs h => Kd.int_any (S := fun k => k < w.heap.size) h) (fun k hk => hk) HN.out.1 HN.out.2 ?_; intro v1 w1 ho1 hf1 hat1; obtain ⟨A1, n1, c1, rfl⟩ := ho1.form)
  simp only [List.nil_append] at ho1
  have F1 : Fr (fun k => k < w.heap.size) w w1 := hf1.mono fun k _ _ => by simp [Value.ownBlock]
  have hn1 : n1 = idx.length := by
    obtain ⟨_, _, he, _⟩ := ho1.slice
    cases he
    rfl
  clear hf1 hat1 HN
  go_loopw [7] (fun i wr => ∃ k : Nat, k ≤ sh.length ∧ i = .int .i64 ((k : Int) - 1) ∧ Hid ((nextL (sh.drop k) (idx.drop k)).2 = false) ∧ Own Im 3 (fun k => w.heap.size ≤ k) wr (.slice A1 n1 c1) (idx.take k ++ (nextL (sh.drop k) (idx.drop k)).1) ∧ Fr (fun k => k < w.heap.size) w wr) (fun i _ => (intOf i + 1).toNat)
  case atStart =>
    refine ⟨sh.length, Nat.le_refl _, rfl, Lib.hid ?_, ?_, F1⟩
    · rw [List.drop_length, List.drop_of_length_le (by rw [HL.out]; exact Nat.le_refl _)]; rfl
    · rw [List.drop_length, List.drop_of_length_le (by rw [HL.out]; exact Nat.le_refl _), List.take_of_length_le (by rw [HL.out]; exact Nat.le_refl _)]
      simpa [nextL] using ho1
  case round =>
    clear ho1 F1
    obtain ⟨k, hk, rfl, HF, ho, F⟩ := hrel
    have hlen := HL.out
    by_cases h0 : 0 < k
    · obtain ⟨j, rfl⟩ : ∃ j, k = j + 1 := ⟨k - 1, by omega⟩
      have hj : j < sh.length := by omega
      have hj2 : j < idx.length := by omega
      have hidx : ((j + 1 : Nat) : Int) - 1 = (j : Int) := by omega
      rw [hidx]
      obtain ⟨ad, rfl, hx, hx1, hx2⟩ := Kd.int_cell (HA.out.fr F) (i := j) hj
      have e0 : (idx.take (j + 1) ++ (nextL (sh.drop (j + 1)) (idx.drop (j + 1))).1)[j]'(by rw [List.length_append, List.length_take]; omega) = idx[j] := by
        rw [List.getElem_append_left (by rw [List.length_take]; omega), List.getElem_take]
      obtain ⟨g, rfl, hg, hglt, hy, hfz, hset⟩ := ho.int_at (j := j) (by rw [List.length_append, List.length_take]; omega)
      rw [e0] at hy
      have hb1 := (inL_iff HL.out).1 HI.out j hj
      rw [getI_at hj, getI_at hj2] at hb1
      have hhere := next_here HL.out hj HF.out
      have hcar := next_carry HL.out hj HF.out
      have htm := fun y => itake_mid (r := (nextL (sh.drop (j + 1)) (idx.drop (j + 1))).1) hj2 _ y rfl
      generalize sh[j] = d at hx hx1 hx2 hb1 hhere hcar
      generalize idx[j] = x at hy hb1 hhere hcar
      have hwx : IntKind.i64.wrap (x + 1) = x + 1 := by rw [IntKind.wrap_i64]; omega
      have HH := Lib.hid hhere
      have HC := Lib.hid hcar
      have HT := Lib.hid htm
      have HS := Lib.hid hset
      have D := fun R (w : World) => (Fr.refl R w).drew
      have FS := fun y => F.comp (fr_set1 wr g j (.int .i64 y)) (R := fun k => k < w.heap.size) fun k _ hk => ⟨hk, by omega⟩
      subst hn1
      clear hhere hcar htm hset e0 hidx hk hlen
      by_cases hlt : x + 1 < d
      · have hnew := (HS.out (x + 1) (by omega) (by omega)).fr (D _ _)
        rw [HT.out] at hnew
        have HE := Lib.hid (HH.out hlt)
        have HNW := Lib.hid hnew
        clear hnew
        go_wp2_with fail
        go_region
        all_goals
          go_wp2_with fail
          go_ret2
          exact ⟨_, by rw [HE.out]; rfl, by rw [HE.out]; exact HNW.out, (FS _).drew⟩
      · have hnew := (HS.out 0 (by omega) (by omega)).fr (D _ _)
        rw [HT.out] at hnew
        have HE := Lib.hid (HC.out (by omega))
        have HNW := Lib.hid hnew
        clear hnew
        go_wp2_with fail
        go_region
        all_goals
          go_wp2_with fail
          go_roundw
          case rel => exact ⟨j, by omega, by go_num, Lib.hid (by rw [HE.out]), by rw [HE.out]; exact HNW.out, (FS _).drew⟩
          case measure => first | (simp [intOf]; done) | (simp [intOf]; omega)
    · obtain rfl : k = 0 := by omega
      simp only [List.take_zero, List.drop_zero, List.nil_append] at HF ho
      go_wp2_with fail
      go_ret2
      exact ⟨_, by rw [HF.out]; rfl, ho, F⟩

abbrev Ix : Kd (List Int) := Kd.sl Im Im_pos
theorem Ix_pos : 0 < Ix.size := by decide
theorem ixT : ElemT Tryz.prog Ix 90 22 24 := ElemT.mk' (.slice none 0 0) Tryz.underlying90 Ix_pos (by kernel_rfl) rfl
theorem Ix_get {S : Nat → Prop} {w : World} {xs : List (List Int)} {A : Option Addr} {c : Nat} (h : Sl Ix S w (.slice A xs.length c) xs) {i : Nat} (hi : i < xs.length) : ∃ ad P n d, A = some ad ∧ S ad.block ∧ w.cell? (ad.add i) = some (.slice P n d) ∧ Sl Im S w (.slice P n d) xs[i] := by
  obtain ⟨A', c', he, h1, h2, h3, h4⟩ := h
  cases he
  obtain ⟨ad, rfl, hS, hc⟩ := h4 (by omega)
  obtain ⟨cs, ⟨v, rfl, hv⟩, hu⟩ := hc i xs[i] (by simp [hi])
  obtain ⟨P, n, d, rfl⟩ := hv.form
  have := hu 0 _ rfl
  refine ⟨ad, P, n, d, rfl, hS, ?_, hv⟩
  simpa [Ix, Kd.sl] using this
/-- A slice of one element, laid anew. -/
theorem Own.single {α : Type} {K : Kd α} {e : TypeId} {S : Nat → Prop} (w : World) {x : α} {cs : List Value} (hS : S w.heap.size) (hr : K.rd (fun k => S k ∧ k < w.heap.size) w x cs) : Own K e S (w.alloc (.cells cs.toArray e)) (.slice (some ⟨w.heap.size, 0, none⟩) 1 1) [x] := by
  have hcl := K.len hr
  refine ⟨cs, World.ownsRow_lit w cs.toArray 1 (Nat.zero_le _) (by decide) (by simp [hcl]), fun g hg => by simp [Value.ownBlock] at hg; subst hg; exact hS, fun i y hy => ?_⟩
  cases i with
  | succ n => simp at hy
  | zero =>
    simp at hy; subst hy
    refine ⟨cs, K.mono (fun k hk => ⟨hk.1, fun e => by simp [Value.ownBlock] at e; omega⟩) (K.fr hr ((Fr.refl _ w).alloc _)), fun j u hj => by simpa using hj⟩
/-- A row of numbers, laid anew. -/
theorem Own.ints {e : TypeId} {S : Nat → Prop} (w : World) (xs : List Int) (cells : Array Value) (hc : cells = (xs.map fun x => Value.int .i64 x).toArray) (hb : ∀ x ∈ xs, -9223372036854775808 ≤ x ∧ x < 9223372036854775808) (hl : xs.length ≤ 1099511627000) (hS : S w.heap.size) : Own Im e S (w.alloc (.cells cells e)) (.slice (some ⟨w.heap.size, 0, none⟩) xs.length xs.length) xs := by
  refine ⟨cells.toList, World.ownsRow_lit w cells xs.length (Nat.zero_le _) (by unfold maxLen; omega) (by rw [hc]; simp [Im, Kd.int]), fun g hg => by simp [Value.ownBlock] at hg; subst hg; exact hS, fun i x hx => ⟨[.int .i64 x], ⟨rfl, hb x (List.mem_of_getElem? hx)⟩, fun j u hj => ?_⟩⟩
  have hj0 : j = 0 := by
    have := (List.getElem?_eq_some_iff.1 hj).1
    simp at this; exact this
  subst hj0
  simp at hj
  subst hj
  rw [hc]
  simp [Im, Kd.int, hx]
theorem make_ints (n : Nat) (hn : n ≤ 1099511627000) (u : World) : (Instr.makeSlice 22 (.int .i64 (n : Int)) (.int .i64 (n : Int))).run Tryz.prog u = .ok (.slice (some ⟨u.heap.size, 0, none⟩) n n) (u.alloc (.cells (((List.replicate n (0 : Int)).map fun x => Value.int .i64 x).toArray) 3)) := by
  obtain ⟨i0, hi, hz0, hz1, hz2⟩ := info_parts info_int
  have h := run_make (P := Tryz.prog) u 22 3 i0 (.int .i64 0) Tryz.underlying22 hi hz0 .i64 .i64 (n : Int) (n : Int) (by omega) (Int.le_refl _) (by rw [hz2]; omega) (by omega)
  rw [Int.toNat_natCast, hz1, Nat.mul_one] at h
  rw [h]
  refine congrArg (fun c => Result.ok _ (World.alloc u (Obj.cells c _ _))) ?_
  apply Array.ext'
  simp [madeCells, Value.cells]
  apply List.ext_getElem
  · simp
  · intro i h1 h2
    simp [Nat.mod_one]
/-- How long a slice is. -/
def lenV : Value → Nat
  | .slice _ n _ => n
  | _ => 0

set_option maxHeartbeats 4000000 in
theorem indexes_t {S : Nat → Prop} (w : World) (va : Value) (sh : List Int) (ha : Sl Im S w va sh) (hm : mayS sh = 0) :
    Calls Tryz.prog 56 #[va] w fun e w' => ∃ v, e = .returned v ∧ Own Ix 22 (fun k => w.heap.size ≤ k) w' v ((List.range (pr sh).toNat).map (seqI sh)) ∧ Fr (fun k => k < w.heap.size) w w' := by
  obtain ⟨h4, h1, h2⟩ := mayS_ok hm
  obtain ⟨A, c, rfl, _, _, hlx⟩ := ha.slice
  have hpos := pr_pos h1
  obtain ⟨N, hN⟩ : ∃ N : Nat, pr sh = (N : Int) := ⟨(pr sh).toNat, by omega⟩
  have hNt : (pr sh).toNat = N := by omega
  rw [hNt]
  have HA := Lib.hid (ha.low Im_pos)
  have H1 := Lib.hid h1
  have HP := Lib.hid hN
  have hmk := make_ints sh.length (by omega)
  clear ha hm h1
  go_enter Tryz.func56, Tryz.ntmps56
  go_wp2_with fail
  go_loopw [3] (fun o wr => ∃ k : Nat, k < N ∧ (∃ A1 n1 c1, o = .slice A1 n1 c1 ∧ n1 = k + 1 ∧ Own Ix 22 (fun k => w.heap.size ≤ k) wr (.slice A1 n1 c1) ((List.range (k + 1)).map (seqI sh))) ∧ Fr (fun k => k < w.heap.size) w wr) (fun o _ => N - lenV o)
  case atStart =>
    have h0 := Own.ints (e := 3) (S := fun k => w.heap.size ≤ k) w (List.replicate sh.length 0) (Array.replicate sh.length (Value.int .i64 0)) (by simp) (fun x hx => by rw [List.eq_of_mem_replicate hx]; decide) (by rw [List.length_replicate]; omega) (Nat.le_refl _)
    rw [List.length_replicate] at h0
    have h3 := Own.single (K := Ix) (e := 22) (S := fun k => w.heap.size ≤ k) (w.alloc (.cells (Array.replicate sh.length (Value.int .i64 0)) 3)) (x := seqI sh 0) (cs := [.slice (some ⟨w.heap.size, 0, none⟩) sh.length sh.length]) (by simp only [World.size_alloc]; omega) ⟨_, rfl, h0.sl.bd Im_pos⟩
    simp only [World.size_alloc] at h3
    exact ⟨0, by omega, ⟨_, _, _, rfl, rfl, h3⟩, ((Fr.refl _ _).alloc _).alloc _⟩
  case round =>
    obtain ⟨k, hk, ⟨A1, n1, c1, rfl, rfl, ho⟩, F⟩ := hrel
    have hkl : k < ((List.range (k + 1)).map (seqI sh)).length := by simp
    have hsl := ho.sl
    rw [show (Value.slice A1 (k + 1) c1) = Value.slice A1 ((List.range (k + 1)).map (seqI sh)).length c1 by simp] at hsl
    obtain ⟨ad, P, n, d, rfl, hS, hx, hv⟩ := Ix_get hsl hkl
    rw [List.getElem_map, List.getElem_range] at hv
    have hin := seq_in H1.out (k := k) (by omega)
    have hlast := seq_last H1.out (k := k) (by omega)
    have HI := Lib.hid hin.1
    have p := next_t wr (.slice A sh.length c) (.slice P n d) sh (seqI sh k) (HA.out.fr F) hv HI.out (by omega)
    rw [hlast] at p
    have HV := Lib.hid p
    clear p hv hsl hkl hin hlast
    have hown := ho.lt
    have hin2 := ho.in_
    have HO := Lib.hid ho
    by_cases hlt : k + 1 < N
    · rw [decide_eq_true (show (k : Int) + 1 < pr sh by omega)] at HV
      have HLn := Lib.hid (show (((List.range (k + 1)).map (seqI sh)).length + 1) * 24 ≤ 140737488355328 ∧ ((List.range (k + 1)).map (seqI sh)).length + 1 ≤ 9223372036854775807 by rw [List.length_map, List.length_range]; omega)
      clear ho
      go_wp2_with fail
      refine HV.out.mono ?_
      rintro e w1 ⟨v, rfl, ho2, hf⟩
      obtain ⟨A2, n2, c2, rfl⟩ := ho2.form
      have ho3 := HO.out.keep' hf
      have F1 := fr_then F hf
      have hsz := hf.size
      go_wp2_with (at_builtin; refine wpList_push1 (v := .slice (some ad) (k + 1) c1) (y := seqI sh (k + 1)) (cs := [.slice A2 n2 c2]) (T := fun k => wr.heap.size ≤ k) ixT rfl rfl rfl rfl ho3 ⟨_, rfl, ho2.sl⟩ (fun k hk _ => ⟨by have := F.size; omega, fun e => by have := hown k e.symm; omega⟩) (fun k hk => by have := F1.size; omega) HLn.out.1 HLn.out.2 ?_; intro v' w2 hown2 hfr hat; obtain ⟨A3, n3, c3, rfl⟩ := hown2.form)
      have hn3 : n3 = k + 2 := by
        obtain ⟨_, _, he, _⟩ := hown2.slice
        cases he
        simp
      subst hn3
      go_roundw
      case rel => exact ⟨k + 1, hlt, ⟨_, _, _, rfl, rfl, by rw [List.range_succ (n := k + 1), List.map_append]; exact hown2⟩, F1.comp hfr fun k hk hk' => ⟨hk', fun e => by have := hin2 k e.symm; omega⟩⟩
      case measure => simp [lenV]; omega
    · rw [decide_eq_false (show ¬ (k : Int) + 1 < pr sh by omega)] at HV
      obtain rfl : N = k + 1 := by omega
      clear ho
      go_wp2_with fail
      refine HV.out.mono ?_
      rintro e w1 ⟨v, rfl, ho2, hf⟩
      have ho3 := HO.out.keep' hf
      have F1 := fr_then F hf
      go_wp2_with fail
      go_ret
      exact ⟨_, rfl, ho3, F1⟩

set_option maxHeartbeats 2000000 in
theorem samelist_calls {S T : Nat → Prop} (w : World) (va vb : Value) (a b : List Int) (ha : Sl Im S w va a) (hb : Sl Im T w vb b) :
    Calls Tryz.prog 57 #[va, vb] w fun e w' => e = .returned (.bool (decide (a = b))) ∧ Fr (fun _ => True) w w' := by
  obtain ⟨A, c, rfl, _, _, hlx⟩ := ha.slice
  obtain ⟨A', c', rfl, _, _, hly⟩ := hb.slice
  obtain ⟨r, hr⟩ : ∃ r, r = decide (a = b) := ⟨_, rfl⟩
  rw [← hr]
  have HA := Lib.hid ha.any
  have HB := Lib.hid hb.any
  have HR := Lib.hid hr
  clear ha hb hr
  go_enter Tryz.func57, Tryz.ntmps57
  by_cases hl : a.length = b.length
  · have hli : ((a.length : Int) == (b.length : Int)) = true := by simp [hl]
    go_wp2_with fail
    go_loopw [5] (fun i wr => ∃ (n : Nat), i = .int .i64 n ∧ n ≤ a.length ∧ Hid (∀ (k : Nat) (h1 : k < a.length) (h2 : k < b.length), k < n → a[k] = b[k]) ∧ Fr (fun _ => True) w wr) (fun i _ => a.length - (intOf i).toNat)
    case atStart => exact ⟨0, rfl, by omega, Lib.hid (fun k _ _ hk => by omega), Fr.refl _ _⟩
    case round =>
      obtain ⟨n, rfl, hn, HE, G⟩ := hrel
      by_cases hlt : n < a.length
      · have hlt2 : n < b.length := by omega
        replace G := G.drew
        obtain ⟨ad, rfl, hx, _⟩ := Kd.int_cell (HA.out.fr G) (i := n) hlt
        obtain ⟨ad', rfl, hy, _⟩ := Kd.int_cell (HB.out.fr G) (i := n) hlt2
        have hst := eq_step HE.out
        have hno := ne_at n hlt hlt2
        generalize hX : a[n] = X at hx hno
        generalize hY : b[n] = Y at hy hno
        by_cases he : X = Y
        · subst he
          have HN := Lib.hid (hst fun _ _ => hX.trans hY.symm)
          clear hst hno hX hY HE
          go_wp2_with fail
          go_region
          all_goals
            go_wp2_with fail
            go_roundw
            case rel => exact ⟨n + 1, by go_num, by omega, HN, G⟩
            case measure => first | (simp [intOf]; done) | (simp [intOf]; omega)
        · have HN : r = false := HR.out.trans (decide_eq_false (hno he))
          clear hst hno hX hY HE
          go_wp2_with fail
          go_region
          all_goals
            go_wp2_with fail
            go_ret
            exact ⟨by first | rfl | exact congrArg (fun b : Bool => Ending.returned (.bool b)) HN.symm, G⟩
      · have HN : r = true := HR.out.trans (decide_eq_true (eq_of_all hl fun k h1 h2 => HE.out k h1 h2 (by omega)))
        go_wp2_with fail
        go_ret
        exact ⟨by first | rfl | exact congrArg (fun b : Bool => Ending.returned (.bool b)) HN.symm, G⟩
  · have hli : ((a.length : Int) == (b.length : Int)) = false := by rw [beq_eq_false_iff_ne]; omega
    have HN : r = false := HR.out.trans (decide_eq_false (by rintro rfl; exact hl rfl))
    go_wp2_with fail
    go_ret
    exact ⟨by first | rfl | exact congrArg (fun b : Bool => Ending.returned (.bool b)) HN.symm, Fr.refl _ _⟩
end Go.Proofs.YtlppcfeimpcbjaaGreat


/- The document's Offset. -/
namespace Go.Proofs.YtlppcfeimpcbjaaGreat
open Go.RowKit

theorem offE_in {sh idx : List Int} (hm : mayS sh = 0) (hl : idx.length = sh.length) : (offE sh idx = 0 ↔ inL sh idx) ∧ (¬ inL sh idx → offE sh idx = 21) := by
  constructor
  · constructor
    · intro h; exact (inL_iff hl).2 (offE_ok h).2.2
    · intro h; exact offE_0 hm hl ((inL_iff hl).1 h)
  · intro h; exact offE_21 hm hl fun g => h ((inL_iff hl).2 g)

end Go.Proofs.YtlppcfeimpcbjaaGreat

/- The contracts of SameInts, the document's Check, Min, Index and Clone. -/
import Derived.Test.YtkmbjpgpkgeiaaaRows
import Derived.WalkKit
import Derived.ProofKit
import Derived.OpenShut
import Derived.Below
import Derived.Outline
import Derived.LoopTactic
import Derived.Lib.Hide
import Derived.WalkSpells
import Derived.RegionTactic
import Derived.BigRegion
import Derived.Deep.QuietTactic
import Derived.BigQuiet
import Derived.Deep.RegionWith
import Derived.Maps.AppendAt
import Derived.Test.YtkmbjpgpkgeiaaaA
namespace Go.Proofs.Ytkmbjpgpkgeiaaa
open Go.ChangeShapes Go.WideShapes Go.ChangeAt Go.RowKit
set_option linter.unusedVariables false

attribute [local go_sem ↓] run_min2 run_max2
theorem take_same {α : Type} {l m : List α} {k : Nat} {x : α} (hx : l[k]? = some x) (hy : m[k]? = some x) (h : l.take k = m.take k) : l.take (k + 1) = m.take (k + 1) := by
  obtain ⟨hk, e⟩ := List.getElem?_eq_some_iff.1 hx
  obtain ⟨hk', e'⟩ := List.getElem?_eq_some_iff.1 hy
  rw [List.take_succ_eq_append_getElem hk, List.take_succ_eq_append_getElem hk', h, e, e']
theorem not_same {α : Type} {l m : List α} {k : Nat} {x y : α} (hx : l[k]? = some x) (hy : m[k]? = some y) (h : ¬ x = y) : ¬ l = m := by
  rintro rfl
  rw [hx] at hy
  injection hy with hy
  exact h hy
theorem len_ne {α : Type} {l m : List α} (h : ¬ l.length = m.length) : ¬ l = m := fun e => h (by rw [e])
theorem all_same {α : Type} {l m : List α} (h : l.length = m.length) (e : l.take l.length = m.take l.length) : l = m := by
  rw [List.take_length, h, List.take_length] at e
  exact e

set_option maxHeartbeats 1000000 in
theorem sameInts_any {l m : List Int} {v u : Value} (w : World) (hl : IsAt w v l) (hm : IsAt w u m) :
    Calls Try.prog 18 #[v, u] w fun e w' => e = .returned (.bool (decide (l = m))) ∧ Below w.heap.size w w' := by
  have hl' := hl
  obtain ⟨A, c, rfl, hlx, hq⟩ := hl'
  have hm' := hm
  obtain ⟨A2, c2, rfl, hmx, hq2⟩ := hm'
  have HL := Lib.hid hl; clear hl
  have HM := Lib.hid hm; clear hm
  clear hq hq2
  by_cases hlen : l.length = m.length
  · have HLEN := Lib.hid hlen
    rw [← hlen]
    clear hlen
    go_enter Try.func18, Try.ntmps18
    go_wp2_with fail
    go_loopw [5] (fun i wr => ∃ k : Nat, k ≤ l.length ∧ i = .int .i64 k ∧ Below w.heap.size w wr ∧ Hid (l.take k = m.take k)) (fun i _ => l.length - (intOf i).toNat)
    case atStart => exact ⟨0, Nat.zero_le _, rfl, Below.refl _ _, by unfold Hid; simp⟩
    case round =>
      obtain ⟨k, hk, rfl, hb, N⟩ := hrel
      have HB := Lib.hid hb; clear hb
      by_cases hlt : k < l.length
      · have HLT := Lib.hid hlt
        obtain ⟨x, hx⟩ : ∃ x, l[k]? = some x := ⟨_, List.getElem?_eq_getElem hlt⟩
        obtain ⟨y, hy⟩ : ∃ y, m[k]? = some y := ⟨_, List.getElem?_eq_getElem (by have := HLEN.out; omega)⟩
        have HX := Lib.hid hx
        have HY := Lib.hid hy
        obtain ⟨g, og, rfl, hg, q0⟩ := HL.out.get hx
        obtain ⟨g2, og2, rfl, hg2, s0⟩ := HM.out.get hy
        have hgr : g < wr.heap.size := Nat.lt_of_lt_of_le hg HB.out.size
        have hgr2 : g2 < wr.heap.size := Nat.lt_of_lt_of_le hg2 HB.out.size
        replace q0 := cell_below HB.out q0
        replace s0 := cell_below HB.out s0
        clear hx hy
        by_cases hxy : x = y
        · subst hxy
          go_wp2_with fail
          have cu := upon_cell wr wr.heap.size
          refine wp_region_upon (by kernel_rfl) (by kernel_rfl) ?_
          repeat (go_big_quiet_step (fail))
          refine wpQuiet_nil ?_
          intro W' hb'
          have HB3 := Lib.hid (HB.out.trans (hb'.mono HB.out.size))
          clear hb' cu
          go_wp2
          go_roundw
          case rel => exact ⟨k + 1, HLT.out, by go_num, HB3.out, take_same HX.out HY.out N.out⟩
          case measure => have := HLT.out; simp [intOf]; omega
        · have E := Lib.hid hxy
          have d1 : (x == y) = false := by simpa using hxy
          have d2 : (x != y) = true := by simpa using hxy
          clear hxy
          go_wp2_with fail
          have cu := upon_cell wr wr.heap.size
          refine wp_region_upon (by kernel_rfl) (by kernel_rfl) ?_
          repeat (go_big_quiet_step (fail))
          refine wpQuiet_nil ?_
          intro W' hb'
          have HB3 := Lib.hid (HB.out.trans (hb'.mono HB.out.size))
          clear hb' cu
          go_wp2
          go_ret
          exact ⟨ret_bool (decide_eq_false (not_same HX.out HY.out E.out)).symm, HB3.out⟩
      · have : k = l.length := by omega
        subst this
        go_wp2
        go_ret
        exact ⟨ret_bool (decide_eq_true (all_same HLEN.out N.out)).symm, HB.out⟩
  · have E := Lib.hid (len_ne hlen)
    have d1 : decide ((l.length : Int) = (m.length : Int)) = false := by simp; omega
    have d2 : ((l.length : Int) == (m.length : Int)) = false := by simp; omega
    have d3 : ((l.length : Int) != (m.length : Int)) = true := by simp; omega
    clear hlen
    go_enter Try.func18, Try.ntmps18
    go_wp2
    go_ret
    exact ⟨ret_bool (decide_eq_false E.out).symm, Below.refl _ _⟩

theorem odd_split {n : Int} {x : Int × Int} : oddB n x = false ↔ ¬ x.1 < 0 ∧ ¬ n ≤ x.1 ∧ ¬ x.2 < 0 ∧ ¬ n ≤ x.2 := by
  simp only [oddB, Bool.or_eq_false_iff, decide_eq_false_iff_not]
  omega
theorem any_odd {n : Int} {l : List (Int × Int)} {x : Int × Int} (hx : x ∈ l) (h : ¬ (¬ x.1 < 0 ∧ ¬ n ≤ x.1 ∧ ¬ x.2 < 0 ∧ ¬ n ≤ x.2)) : l.any (oddB n) = true := by
  rw [List.any_eq_true]
  refine ⟨x, hx, ?_⟩
  cases e : oddB n x
  · exact absurd (odd_split.1 e) h
  · rfl

set_option maxHeartbeats 1000000 in
theorem rcheck_any {l : List (Int × Int)} {v : Value} (n : Int) (w : World) (hl : EsAt w v l) :
    Calls Try.prog 25 #[.int .i64 n, v] w fun e w' => e = .returned (.int .i64 (chkI n l)) ∧ w = w' := by
  have hl' := hl
  obtain ⟨A, c, rfl, hmx, hq⟩ := hl'
  have HL := Lib.hid hl; clear hl
  clear hq
  by_cases h1 : 1000 < n
  · have e : chkI n l = 4 := by unfold chkI; rw [if_pos (.inl h1)]
    rw [e]
    clear e
    go_enter Try.func25, Try.ntmps25
    go_wp2
    go_ret
    exact ⟨rfl, rfl⟩
  by_cases h2 : 10000 < l.length
  · have e : chkI n l = 4 := by unfold chkI; rw [if_pos (.inr h2)]
    rw [e]
    clear e
    go_enter Try.func25, Try.ntmps25
    go_wp2
    go_ret
    exact ⟨rfl, rfl⟩
  have HC : Hid (chkI n l = if n < 0 ∨ l.any (oddB n) = true then 2 else 0) := by unfold Hid chkI; rw [if_neg (by omega)]
  go_enter Try.func25, Try.ntmps25
  go_wp2_with fail
  go_loop [5] (fun i => ∃ k : Nat, k ≤ l.length ∧ i = .int .i64 k ∧ Hid (∀ x ∈ l.take k, oddB n x = false)) (fun i => l.length - (intOf i).toNat)
  case atStart => exact ⟨0, Nat.zero_le _, rfl, by unfold Hid; simp⟩
  case round =>
    obtain ⟨k, hk, rfl, N⟩ := hrel
    by_cases hlt : k < l.length
    · have HLT := Lib.hid hlt
      obtain ⟨x, hx⟩ : ∃ x, l[k]? = some x := ⟨_, List.getElem?_eq_getElem hlt⟩
      have HX := Lib.hid hx
      obtain ⟨g, og, rfl, hg, q0, q1⟩ := HL.out.get hx
      have HMX := Lib.hid (List.mem_of_getElem? hx)
      clear hx
      by_cases t0 : x.1 < 0
      · have E := Lib.hid (any_odd HMX.out (show ¬ (¬ x.1 < 0 ∧ ¬ n ≤ x.1 ∧ ¬ x.2 < 0 ∧ ¬ n ≤ x.2) by omega))
        go_wp2
        go_ret
        exact ⟨ret_int (by rw [HC.out, if_pos (.inr E.out)]), rfl⟩
      by_cases t1 : n ≤ x.1
      · have E := Lib.hid (any_odd HMX.out (show ¬ (¬ x.1 < 0 ∧ ¬ n ≤ x.1 ∧ ¬ x.2 < 0 ∧ ¬ n ≤ x.2) by omega))
        go_wp2
        go_ret
        exact ⟨ret_int (by rw [HC.out, if_pos (.inr E.out)]), rfl⟩
      by_cases t2 : x.2 < 0
      · have E := Lib.hid (any_odd HMX.out (show ¬ (¬ x.1 < 0 ∧ ¬ n ≤ x.1 ∧ ¬ x.2 < 0 ∧ ¬ n ≤ x.2) by omega))
        go_wp2
        go_ret
        exact ⟨ret_int (by rw [HC.out, if_pos (.inr E.out)]), rfl⟩
      by_cases t3 : n ≤ x.2
      · have E := Lib.hid (any_odd HMX.out (show ¬ (¬ x.1 < 0 ∧ ¬ n ≤ x.1 ∧ ¬ x.2 < 0 ∧ ¬ n ≤ x.2) by omega))
        go_wp2
        go_ret
        exact ⟨ret_int (by rw [HC.out, if_pos (.inr E.out)]), rfl⟩
      have E := Lib.hid (odd_split.2 ⟨t0, t1, t2, t3⟩)
      go_wp2
      go_round
      case rel => exact ⟨k + 1, HLT.out, by go_num, take_more HX.out N.out E.out⟩
      case measure => have := HLT.out; simp [intOf]; omega
    · have : k = l.length := by omega
      subst this
      have E : Hid (¬ l.any (oddB n) = true) := by
        unfold Hid
        rw [List.any_eq_true]
        rintro ⟨x, hx, h⟩
        rw [take_all N.out x hx] at h
        cases h
      by_cases h3 : n < 0
      · go_wp2
        go_ret
        exact ⟨ret_int (by rw [HC.out, if_pos (.inl h3)]), rfl⟩
      · have h3' : ¬ n < 0 := h3
        have HN := Lib.hid h3
        go_wp2
        go_ret
        exact ⟨ret_int (by rw [HC.out, if_neg (fun e => e.elim (by have := HN.out; omega) E.out)]), rfl⟩

def mnL : List Int → Int
  | [] => 0
  | x :: r => r.foldl mn x
theorem mnL_more {l : List Int} {k : Nat} {y : Int} (h1 : 1 ≤ k) (hy : l[k]? = some y) : mnL (l.take (k + 1)) = mn (mnL (l.take k)) y := by
  obtain ⟨hk, rfl⟩ := List.getElem?_eq_some_iff.1 hy
  cases l with
  | nil => cases hk
  | cons x r =>
    obtain ⟨j, rfl⟩ : ∃ j, k = j + 1 := ⟨k - 1, by omega⟩
    simp only [List.take_succ_cons, mnL, List.getElem_cons_succ]
    rw [List.take_succ_eq_append_getElem (by simpa using hk), List.foldl_append]
    rfl
theorem mn_fold : ∀ (r : List Int) (x : Int), (r.foldl mn x = x ∨ r.foldl mn x ∈ r) ∧ r.foldl mn x ≤ x ∧ ∀ y ∈ r, r.foldl mn x ≤ y
  | [], x => ⟨.inl rfl, Int.le_refl _, by simp⟩
  | a :: r, x => by
    obtain ⟨h1, h2, h3⟩ := mn_fold r (mn x a)
    have h4 : mn x a ≤ x ∧ mn x a ≤ a ∧ (mn x a = x ∨ mn x a = a) := by unfold mn; split <;> omega
    refine ⟨?_, Int.le_trans h2 h4.1, fun y hy => ?_⟩
    · rcases h1 with h1 | h1
      · rcases h4.2.2 with e | e
        · left; rw [List.foldl_cons, h1, e]
        · right; rw [List.foldl_cons, h1, e]; simp
      · right; exact List.mem_cons_of_mem _ h1
    · rcases List.mem_cons.1 hy with rfl | hy
      · exact Int.le_trans h2 h4.2.1
      · exact h3 y hy
theorem mnL_mem {l : List Int} (h : l ≠ []) : mnL l ∈ l := by
  cases l with
  | nil => exact absurd rfl h
  | cons x r =>
    rcases (mn_fold r x).1 with e | e
    · show r.foldl mn x ∈ x :: r
      rw [e]; simp
    · exact List.mem_cons_of_mem _ e
theorem mnL_le {l : List Int} {y : Int} (h : y ∈ l) : mnL l ≤ y := by
  cases l with
  | nil => cases h
  | cons x r =>
    rcases List.mem_cons.1 h with rfl | h
    · exact (mn_fold r y).2.1
    · exact (mn_fold r x).2.2 y h

set_option maxHeartbeats 1000000 in
theorem min_any {l : List Int} {v : Value} (w : World) (hl : IsAt w v l) (h0 : 1 ≤ l.length) :
    Calls Try.prog 21 #[v] w fun e w' => e = .returned (.int .i64 (mnL l)) ∧ w = w' := by
  have hl' := hl
  obtain ⟨A, c, rfl, hmx, hq⟩ := hl'
  have HL := Lib.hid hl; clear hl
  clear hq
  obtain ⟨x0, hx0⟩ : ∃ x, l[0]? = some x := ⟨_, List.getElem?_eq_getElem (by omega)⟩
  obtain ⟨g, og, rfl, hg, q0⟩ := HL.out.get hx0
  have HX0 : Hid (mnL (l.take 1) = x0) := by
    cases l with
    | nil => cases hx0
    | cons x r => injection hx0 with hx0
  simp only [Nat.add_zero] at q0
  clear hx0
  go_enter Try.func21, Try.ntmps21
  go_wp2_with fail
  go_loop [3, 4] (fun m i => ∃ k : Nat, 1 ≤ k ∧ k ≤ l.length ∧ i = .int .i64 k ∧ m = .int .i64 (mnL (l.take k))) (fun _ i => l.length - (intOf i).toNat)
  case atStart => exact ⟨1, Nat.le_refl _, h0, rfl, by rw [HX0.out]⟩
  case round =>
    obtain ⟨k, hk1, hk, rfl, rfl⟩ := hrel
    have HK1 := Lib.hid hk1
    by_cases hlt : k < l.length
    · have HLT := Lib.hid hlt
      obtain ⟨x, hx⟩ : ∃ x, l[k]? = some x := ⟨_, List.getElem?_eq_getElem hlt⟩
      have HX := Lib.hid hx
      obtain ⟨g', og', e, _, q1⟩ := HL.out.get hx
      injection e with e
      injection e with e1 e2
      subst e1 e2
      clear hx
      obtain ⟨z, hz⟩ : ∃ z, mnL (l.take k) = z := ⟨_, rfl⟩
      have HZ := Lib.hid hz
      rw [hz]
      clear hz
      go_wp2
      go_round
      case rel => exact ⟨k + 1, by omega, HLT.out, by go_num, by rw [mnL_more HK1.out HX.out, HZ.out]⟩
      case measure => have := HLT.out; simp [intOf]; omega
    · have : k = l.length := by omega
      subst this
      go_wp2
      go_ret
      exact ⟨ret_int (by first | rfl | rw [List.take_length]), rfl⟩

set_option maxHeartbeats 1000000 in
theorem indexOf_any {l : List Int} {v : Value} (x : Int) (w : World) (hl : IsAt w v l) :
    Calls Try.prog 32 #[v, .int .i64 x] w fun e w' => e = .returned (.int .i64 (idxF (fun y => y == x) l)) ∧ w = w' := by
  have hl' := hl
  obtain ⟨A, c, rfl, hmx, hq⟩ := hl'
  have HL := Lib.hid hl; clear hl
  clear hq
  go_enter Try.func32, Try.ntmps32
  go_wp2_with fail
  go_loop [5, 8] (fun _ i => ∃ k : Nat, k ≤ l.length ∧ i = .int .i64 k ∧ Hid (∀ y ∈ l.take k, (y == x) = false)) (fun _ i => l.length - (intOf i).toNat)
  case atStart => exact ⟨0, Nat.zero_le _, rfl, by unfold Hid; simp⟩
  case round =>
    obtain ⟨k, hk, rfl, N⟩ := hrel
    by_cases hlt : k < l.length
    · have HLT := Lib.hid hlt
      obtain ⟨y, hy⟩ : ∃ y, l[k]? = some y := ⟨_, List.getElem?_eq_getElem hlt⟩
      have HY := Lib.hid hy
      obtain ⟨g, og, rfl, hg, q0⟩ := HL.out.get hy
      clear hy
      by_cases e : y = x
      · have P : Hid ((y == x) = true) := by unfold Hid; simpa using e
        subst e
        go_wp2
        go_ret
        exact ⟨ret_int (by rw [idxF_some HY.out N.out P.out]), rfl⟩
      · have P : Hid ((y == x) = false) := by unfold Hid; simpa using e
        have d1 : (x == y) = false := by simp; omega
        have d2 : (x != y) = true := by simp; omega
        clear e
        go_wp2
        go_round
        case rel => exact ⟨k + 1, HLT.out, by go_num, take_more HY.out N.out P.out⟩
        case measure => have := HLT.out; simp [intOf]; omega
    · have : k = l.length := by omega
      subst this
      go_wp2
      go_ret
      exact ⟨ret_int (by rw [idxF_none (take_all N.out)]), rfl⟩

/-! ### append, whatever the source -/
theorem add_at (g o j : Nat) : (⟨g, o, none⟩ : Addr).add j = ⟨g, o + j, none⟩ := by unfold Addr.add; split <;> simp_all
theorem run_append_src {P : Program} (w : World) (base : Nat) (t ty e : TypeId) (i : TypeInfo) (z : Value) (size bytes : Nat) (ht : P.underlying t = some (.slice e)) (hi : P.info? e = some i) (hz : i.zero = some z)
    (hsize : i.size = size) (hby : i.bytes = bytes) (hzs : z.cells.size = size) (hsz : 0 < size) (v : Value) (n : Nat) (xs : List Value) (hown : w.ownsRow base e size v n xs)
    (A : Option Addr) (m c : Nat) (news : List Value) (hl : news.length = m * size) (hsrc : ∀ j u, news[j]? = some u → ∃ g o, A = some ⟨g, o, none⟩ ∧ w.cell? ⟨g, o + j, none⟩ = some u) (h1 : ∀ u ∈ news, u.oneCell' = true)
    (h63 : n + m ≤ maxLen) (hbytes : (n + m) * bytes ≤ 140737488355328) (hbase : base ≤ w.heap.size) :
    ∃ v' w', (Builtin.append_ #[t, t] ty #[v, .slice A m c]).run P w = .ok v' w' ∧ w'.ownsRow base e size v' (n + m) (xs ++ news) ∧ w.grownBy w' v.ownBlock ∧ (v'.ownBlock = v.ownBlock ∨ v'.ownBlock = some w.heap.size) := by
  cases A with
  | none =>
    have hn : news = [] := by
      cases news with
      | nil => rfl
      | cons u r =>
        obtain ⟨g, o, e, _⟩ := hsrc 0 u rfl
        cases e
    subst hn
    have hm : m = 0 := by
      have h0 : m * size = 0 := hl.symm
      rcases Nat.mul_eq_zero.1 h0 with h | h <;> omega
    subst hm
    refine ⟨v, w, ?_, by simpa using hown, ⟨rfl, rfl, rfl, Nat.le_refl _, fun _ _ _ => rfl⟩, .inl rfl⟩
    rcases hown.2 with ⟨rfl, rfl⟩ | ⟨g, cap, cur, rfl, _, _, hcap, _⟩
    · simp [Builtin.append_, Builtin.lenOf, Builtin.firstCells, sizeOf, typeInfo, run_underlying ht, hi]
    · simp [Builtin.append_, Builtin.lenOf, Builtin.firstCells, sizeOf, typeInfo, run_underlying ht, hi, hcap, storeCells]
  | some ad =>
    have hat : ∀ j u, news[j]? = some u → w.cell? (ad.add j) = some u := by
      intro j u hu
      obtain ⟨g, o, e, hc⟩ := hsrc j u hu
      injection e with e
      subst e
      rw [add_at]
      exact hc
    obtain ⟨v', w', hr, h2, h3, _, h5⟩ := run_append_own_at (P := P) w base t ty e i z size bytes ht hi hz hsize hby hzs hsz v n xs hown ad m c news hl hat h1 h63 hbytes hbase
    exact ⟨v', w', hr, h2, h3, h5⟩
theorem wpList_append_src {P : Program} {w : World} {ops : Array Oper} {rest : List Oper} {o : Oper} {a : Act} {Q : Exit → Act → World → Prop} (hgd : o.guard = none) (s x : Operand) (t : TypeId)
    (ho : o.op = .call { callee := .builtin .append, args := #[s, x], argTypes := #[t, t] }) (base : Nat) (e : TypeId) (i : TypeInfo) (z : Value) (size bytes : Nat) (ht : P.underlying t = some (.slice e)) (hi : P.info? e = some i) (hz : i.zero = some z)
    (hsize : i.size = size) (hby : i.bytes = bytes) (hzs : z.cells.size = size) (hsz : 0 < size) (v : Value) (n : Nat) (xs : List Value) (hs : a.eval s = v) (hown : w.ownsRow base e size v n xs)
    (A : Option Addr) (m c : Nat) (news : List Value) (hx : a.eval x = .slice A m c) (hl : news.length = m * size) (hsrc : ∀ j u, news[j]? = some u → ∃ g o, A = some ⟨g, o, none⟩ ∧ w.cell? ⟨g, o + j, none⟩ = some u) (h1 : ∀ u ∈ news, u.oneCell' = true)
    (h63 : n + m ≤ maxLen) (hbytes : (n + m) * bytes ≤ 140737488355328) (hbase : base ≤ w.heap.size)
    (h : ∀ v' w', w'.ownsRow base e size v' (n + m) (xs ++ news) → w.grownBy w' v.ownBlock → (v'.ownBlock = v.ownBlock ∨ v'.ownBlock = some w.heap.size) → wpList P ops Q rest (a.put o.dst v') w') :
    wpList P ops Q (o :: rest) a w := by
  refine wpList_plain hgd fun K hK => ?_
  obtain ⟨v', w', hr, h2, h3, h4⟩ := run_append_src (P := P) w base t o.type e i z size bytes ht hi hz hsize hby hzs hsz v n xs hown A m c news hl hsrc h1 h63 hbytes hbase
  unfold Oper.wp execOp
  simp only [ho, resolve, invoke, builtin, Sem.run_bind, Sem.run_pure, Result.andThen_ok, List.map_toArray, List.map_cons, List.map_nil, hs, hx, hr]
  exact hK _ _ (h v' w' h2 h3 h4)
theorem own_slice {w : World} {base : Nat} {e : TypeId} {size n : Nat} {v : Value} {xs : List Value} (h : w.ownsRow base e size v n xs) : ∃ A c, v = .slice A n c := by
  rcases h.2 with ⟨hv, hn⟩ | ⟨g, cap, cur, hv, _⟩
  · exact ⟨none, 0, by rw [hv, hn]⟩
  · exact ⟨_, cap, hv⟩
theorem own_base {w : World} {base : Nat} {e : TypeId} {size n : Nat} {v : Value} {xs : List Value} (h : w.ownsRow base e size v n xs) (k : Nat) (hk : v.ownBlock = some k) : base ≤ k := (h.lt k hk).1
theorem own_lower {w : World} {base base' : Nat} {e : TypeId} {size n : Nat} {v : Value} {xs : List Value} (h : w.ownsRow base e size v n xs) (hb : base' ≤ base) : w.ownsRow base' e size v n xs := by
  obtain ⟨h1, h2⟩ := h
  refine ⟨h1, ?_⟩
  rcases h2 with h2 | ⟨g, cap, cur, hv, hg, r⟩
  · exact .inl h2
  · exact .inr ⟨g, cap, cur, hv, Nat.le_trans hb hg, r⟩
def iv (x : Int) : Value := .int .i64 x
theorem iv_one (l : List Int) : ∀ u ∈ l.map iv, u.oneCell' = true := by
  intro u hu
  simp only [List.mem_map] at hu
  obtain ⟨k, _, rfl⟩ := hu
  rfl
theorem IsAt.src {w : World} {A : Option Addr} {n c : Nat} {l : List Int} (h : IsAt w (.slice A n c) l) : ∀ j u, (l.map iv)[j]? = some u → ∃ g o, A = some ⟨g, o, none⟩ ∧ w.cell? ⟨g, o + j, none⟩ = some u := by
  intro j u hj
  rw [List.getElem?_map, Option.map_eq_some_iff] at hj
  obtain ⟨k, hk, rfl⟩ := hj
  obtain ⟨g, o, e, _, hc⟩ := h.get hk
  exact ⟨g, o, e, hc⟩
theorem IsAt.own {base : Nat} {w : World} {v : Value} {l : List Int} (h : w.ownsRow base 3 1 v l.length (l.map iv)) : IsAt w v l := by
  rcases h.2 with ⟨rfl, hn⟩ | ⟨g, cap, cur, rfl, _, _, h1, h2, _⟩
  · have : l = [] := List.eq_nil_of_length_eq_zero hn
    subst this
    exact is_nil w
  · refine ⟨_, cap, rfl, Nat.le_trans h1 (by simpa [maxLen] using h2), fun k x hk => ⟨g, 0, rfl, ?_⟩⟩
    have hk' := (List.getElem?_eq_some_iff.1 hk).1
    rw [Nat.zero_add, h.cellAt k (by omega), List.getElem?_map, hk]
    rfl
theorem info3 : (Try.prog.info? 3).map (fun i => (i.zero, i.size, i.bytes)) = some (some (.int .i64 0), 1, 8) := by kernel_rfl
theorem info25 : (Try.prog.info? 25).map (fun i => (i.zero, i.size, i.bytes)) = some (some (.slice none 0 0), 1, 24) := by kernel_rfl
theorem info29 : (Try.prog.info? 29).map (fun i => (i.zero, i.size, i.bytes)) = some (some (.slice none 0 0), 1, 24) := by kernel_rfl
theorem info4 : (Try.prog.info? 4).map (fun i => (i.zero, i.size, i.bytes)) = some (some (.bool false), 1, 1) := by kernel_rfl
theorem info_parts {e : TypeId} {z : Value} {n b : Nat} (h : (Try.prog.info? e).map (fun i => (i.zero, i.size, i.bytes)) = some (some z, n, b)) : ∃ i, Try.prog.info? e = some i ∧ i.zero = some z ∧ i.size = n ∧ i.bytes = b := by
  obtain ⟨i, hi, hh⟩ := Option.map_eq_some_iff.1 h
  simp only [Prod.mk.injEq] at hh
  exact ⟨i, hi, hh.1, hh.2.1, hh.2.2⟩

def OwnP (l : List Int) (w : World) (e : Ending) (w' : World) : Prop := ∃ v : Value, e = .returned v ∧ w'.ownsRow w.heap.size 3 1 v l.length (l.map iv) ∧ Below w.heap.size w w'
theorem clone_any {l : List Int} {v : Value} (w : World) (hl : IsAt w v l) (hlx : l.length ≤ 2000) : Calls Try.prog 33 #[v] w (OwnP l w) := by
  have hl' := hl
  obtain ⟨A, c, rfl, hmx, hq⟩ := hl'
  have HL := Lib.hid hl; clear hl
  clear hq
  obtain ⟨i0, hi, hz0, hz1, hz2⟩ := info_parts info3
  have HI := Lib.hid hi; clear hi
  have HZ0 := Lib.hid hz0; clear hz0
  have HZ1 := Lib.hid hz1; clear hz1
  have HZ2 := Lib.hid hz2; clear hz2
  have q25 : ∀ (w : World) (a : Option Addr) (n c n' c' : Nat), (binOp .eql 25 (.slice a n c) (.slice none n' c')).run Try.prog w = .ok (.bool a.isNone) w := fun w a n c n' c' => Lib.run_eql_slice_nil w _ _ a n c n' c' Try.underlying25
  cases A with
  | none =>
    have h0 : l = [] := by
      cases l with
      | nil => rfl
      | cons k r =>
        obtain ⟨g, o, e, _⟩ := HL.out.get (i := 0) rfl
        cases e
    subst h0
    go_enter Try.func33, Try.ntmps33
    go_wp2
    go_ret
    exact ⟨_, rfl, World.ownsRow_nil _ _ _ _, Below.refl _ _⟩
  | some ad =>
    have hown : Hid ((w.alloc (.cells #[] 3)).ownsRow w.heap.size 3 1 (.slice (some ⟨w.heap.size, 0, none⟩) 0 0) 0 []) := World.ownsRow_lit w #[] 0 (Nat.le_refl _) (by decide) rfl
    have hsrc := Lib.hid (HL.out.below ((Below.refl w.heap.size w).alloc (Nat.le_refl _) (.cells #[] 3))).src
    have hone := Lib.hid (iv_one l)
    go_enter Try.func33, Try.ntmps33
    go_wp2_with (at_builtin; refine wpList_append_src rfl _ _ 25 rfl w.heap.size 3 i0 _ 1 8 Try.underlying25 HI.out HZ0.out HZ1.out HZ2.out rfl (by decide) _ 0 [] rfl hown.out (some ad) l.length c (l.map iv) rfl ?c1 hsrc.out hone.out ?c3 ?c4 ?c5 ?_)
    case c1 => simp
    case c3 => simp only [maxLen]; omega
    case c4 => omega
    case c5 => simp
    intro v' w' hown' hgrow hat
    have HOW := Lib.hid hown'; clear hown'
    have HGR : Hid (Below w.heap.size w w') := ((Below.refl _ _).alloc (Nat.le_refl _) _).grown hgrow (by simp) (fun k hk => by simp [Value.ownBlock] at hk; omega)
    clear hgrow hat
    go_wp2
    go_ret
    exact ⟨v', rfl, by simpa using HOW.out, HGR.out⟩

end Go.Proofs.Ytkmbjpgpkgeiaaa

/- The contracts of what tells whether two memories are the same: the document's Same and mem.Same. -/
import Derived.Test.YtmelamlngjflkaaRows
import Derived.WalkKit
import Derived.ProofKit
import Derived.OpenShut
import Derived.Below
import Derived.Outline
import Derived.LoopTactic
import Derived.Test.YtmelamlngjflkaaRep
import Derived.Test.YtmelamlngjflkaaU
import Derived.Lib.Hide
import Derived.RegionTactic
import Derived.BigRegion
import Derived.Deep.RegionWith
import Derived.Test.YtmelamlngjflkaaP1
namespace Go.Proofs.Ytmelamlngjflkaa
open Go.ChangeShapes Go.WideShapes Go.ChangeAt Go.RowKit
set_option linter.unusedVariables false

/-- Are two values not the same? -/
def neV (k n b o k' n' b' o' : Int) : Bool := !(decide (k = k') && decide (n = n') && decide (b = b') && decide (o = o'))
theorem neV_eq {x y : Val} : neV x.k x.n x.b x.o y.k y.n y.b y.o = !decide (x = y) := by
  obtain ⟨k, n, b, o⟩ := x
  obtain ⟨k', n', b', o'⟩ := y
  by_cases h : (⟨k, n, b, o⟩ : Val) = ⟨k', n', b', o'⟩
  · rw [decide_eq_true h]
    injection h with h1 h2 h3 h4
    subst h1 h2 h3 h4
    simp [neV]
  · rw [decide_eq_false h, Bool.not_false]
    cases e : neV k n b o k' n' b' o'
    · exfalso
      simp [neV] at e
      exact h (by simp [e])
    · rfl
theorem run_neq_val (w : World) (k n b o k' n' b' o' : Int) : (binOp .neq 24 (.agg #[.int .u8 k, .int .i64 n, .int .i64 b, .int .i64 o]) (.agg #[.int .u8 k', .int .i64 n', .int .i64 b', .int .i64 o'])).run Try.prog w = .ok (.bool (neV k n b o k' n' b' o')) w := by
  by_cases h1 : k = k'
  · by_cases h2 : n = n'
    · by_cases h3 : b = b'
      · by_cases h4 : o = o' <;> simp [go_sem, neV, h1, h2, h3, h4]
      · simp [go_sem, neV, h1, h2, h3]
    · simp [go_sem, neV, h1, h2]
  · simp [go_sem, neV, h1]
attribute [local go_sem ↓] run_neq_val

theorem take_same {α : Type} {l m : List α} {k : Nat} {x : α} (hx : l[k]? = some x) (hy : m[k]? = some x) (h : l.take k = m.take k) : l.take (k + 1) = m.take (k + 1) := by
  obtain ⟨hk, e⟩ := List.getElem?_eq_some_iff.1 hx
  obtain ⟨hk', e'⟩ := List.getElem?_eq_some_iff.1 hy
  rw [List.take_succ_eq_append_getElem hk, List.take_succ_eq_append_getElem hk', h, e, e']
theorem not_same {α : Type} {l m : List α} {k : Nat} {x y : α} (hx : l[k]? = some x) (hy : m[k]? = some y) (h : ¬ x = y) : ¬ l = m := by
  rintro rfl
  rw [hx] at hy
  injection hy with hy
  exact h hy
theorem len_ne {α : Type} {l m : List α} (h : ¬ l.length = m.length) : ¬ l = m := fun e => h (by rw [e])
theorem all_same {α : Type} {l m : List α} (h : l.length = m.length) (e : l.take l.length = m.take l.length) : l = m := by
  rw [List.take_length, h, List.take_length] at e
  exact e

set_option maxHeartbeats 1000000 in
theorem svals_any {l m : List Val} {v u : Value} (w : World) (hl : VsAt w v l) (hm : VsAt w u m) :
    Calls Try.prog 48 #[v, u] w fun e w' => e = .returned (.bool (decide (l = m))) ∧ Below w.heap.size w w' := by
  have hl' := hl
  obtain ⟨A, c, rfl, hlx, hq⟩ := hl'
  have hm' := hm
  obtain ⟨A2, c2, rfl, hmx, hq2⟩ := hm'
  have HL := Lib.hid hl; clear hl
  have HM := Lib.hid hm; clear hm
  clear hq hq2
  by_cases hlen : l.length = m.length
  · have HLEN := Lib.hid hlen
    rw [← hlen]
    clear hlen
    go_enter Try.func48, Try.ntmps48
    go_wp2_with fail
    go_loopw [5] (fun i wr => ∃ k : Nat, k ≤ l.length ∧ i = .int .i64 k ∧ Below w.heap.size w wr ∧ Hid (l.take k = m.take k)) (fun i _ => l.length - (intOf i).toNat)
    case atStart => exact ⟨0, Nat.zero_le _, rfl, Below.refl _ _, by unfold Hid; simp⟩
    case round =>
      obtain ⟨k, hk, rfl, hb, N⟩ := hrel
      have HB := Lib.hid hb; clear hb
      by_cases hlt : k < l.length
      · have HLT := Lib.hid hlt
        obtain ⟨x, hx⟩ : ∃ x, l[k]? = some x := ⟨_, List.getElem?_eq_getElem hlt⟩
        obtain ⟨y, hy⟩ : ∃ y, m[k]? = some y := ⟨_, List.getElem?_eq_getElem (by have := HLEN.out; omega)⟩
        have HX := Lib.hid hx
        have HY := Lib.hid hy
        obtain ⟨g, og, rfl, hg, q0, q1, q2, q3⟩ := HL.out.get hx
        obtain ⟨g2, og2, rfl, hg2, s0, s1, s2, s3⟩ := HM.out.get hy
        have hgr : g < wr.heap.size := Nat.lt_of_lt_of_le hg HB.out.size
        have hgr2 : g2 < wr.heap.size := Nat.lt_of_lt_of_le hg2 HB.out.size
        replace q0 := cell_below HB.out q0
        replace q1 := cell_below HB.out q1
        replace q2 := cell_below HB.out q2
        replace q3 := cell_below HB.out q3
        replace s0 := cell_below HB.out s0
        replace s1 := cell_below HB.out s1
        replace s2 := cell_below HB.out s2
        replace s3 := cell_below HB.out s3
        clear hx hy
        cases hd : neV x.k x.n x.b x.o y.k y.n y.b y.o
        · have E : Hid (x = y) := by rw [neV_eq] at hd; unfold Hid; simpa using hd
          go_wp2_with fail
          have cu := upon_cell wr wr.heap.size
          refine wp_region_upon (by kernel_rfl) (by kernel_rfl) ?_
          repeat (go_big_quiet_step (fail))
          refine wpQuiet_nil ?_
          intro W' hb'
          have HB3 := Lib.hid (HB.out.trans (hb'.mono HB.out.size))
          clear hb' cu
          go_wp2
          go_roundw
          case rel => exact ⟨k + 1, HLT.out, by go_num, HB3.out, take_same HX.out (by rw [E.out]; exact HY.out) N.out⟩
          case measure => have := HLT.out; simp [intOf]; omega
        · have E : Hid (¬ x = y) := by rw [neV_eq] at hd; unfold Hid; simpa using hd
          go_wp2_with fail
          have cu := upon_cell wr wr.heap.size
          refine wp_region_upon (by kernel_rfl) (by kernel_rfl) ?_
          repeat (go_big_quiet_step (fail))
          refine wpQuiet_nil ?_
          intro W' hb'
          have HB3 := Lib.hid (HB.out.trans (hb'.mono HB.out.size))
          clear hb' cu
          go_wp2
          go_ret
          exact ⟨ret_bool (decide_eq_false (not_same HX.out HY.out E.out)).symm, HB3.out⟩
      · have : k = l.length := by omega
        subst this
        go_wp2
        go_ret
        exact ⟨ret_bool (decide_eq_true (all_same HLEN.out N.out)).symm, HB.out⟩
  · have E := Lib.hid (len_ne hlen)
    have d1 : decide ((l.length : Int) = (m.length : Int)) = false := by simp; omega
    have d2 : ((l.length : Int) == (m.length : Int)) = false := by simp; omega
    have d3 : ((l.length : Int) != (m.length : Int)) = true := by simp; omega
    clear hlen
    go_enter Try.func48, Try.ntmps48
    go_wp2
    go_ret
    exact ⟨ret_bool (decide_eq_false E.out).symm, Below.refl _ _⟩

set_option maxHeartbeats 1000000 in
theorem equal_any {l m : List Val} {v u : Value} (w : World) (hl : VsAt w v l) (hm : VsAt w u m) :
    Calls Try.prog 55 #[v, u] w fun e w' => e = .returned (.bool (decide (l = m))) ∧ Below w.heap.size w w' := by
  have hl' := hl
  obtain ⟨A, c, rfl, hlx, hq⟩ := hl'
  have hm' := hm
  obtain ⟨A2, c2, rfl, hmx, hq2⟩ := hm'
  have HL := Lib.hid hl; clear hl
  have HM := Lib.hid hm; clear hm
  clear hq hq2
  by_cases hlen : l.length = m.length
  · have HLEN := Lib.hid hlen
    rw [← hlen]
    clear hlen
    go_enter Try.func55, Try.ntmps55
    go_wp2_with fail
    go_loopw [5, 13] (fun _ i wr => ∃ k : Nat, k ≤ l.length ∧ i = .int .i64 k ∧ Below w.heap.size w wr ∧ Hid (l.take k = m.take k)) (fun _ i _ => l.length - (intOf i).toNat)
    case atStart => exact ⟨0, Nat.zero_le _, rfl, Below.refl _ _, by unfold Hid; simp⟩
    case round =>
      obtain ⟨k, hk, rfl, hb, N⟩ := hrel
      have HB := Lib.hid hb; clear hb
      by_cases hlt : k < l.length
      · have HLT := Lib.hid hlt
        obtain ⟨x, hx⟩ : ∃ x, l[k]? = some x := ⟨_, List.getElem?_eq_getElem hlt⟩
        obtain ⟨y, hy⟩ : ∃ y, m[k]? = some y := ⟨_, List.getElem?_eq_getElem (by have := HLEN.out; omega)⟩
        have HX := Lib.hid hx
        have HY := Lib.hid hy
        obtain ⟨g, og, rfl, hg, q0, q1, q2, q3⟩ := HL.out.get hx
        obtain ⟨g2, og2, rfl, hg2, s0, s1, s2, s3⟩ := HM.out.get hy
        have hgr : g < wr.heap.size := Nat.lt_of_lt_of_le hg HB.out.size
        have hgr2 : g2 < wr.heap.size := Nat.lt_of_lt_of_le hg2 HB.out.size
        replace q0 := cell_below HB.out q0
        replace q1 := cell_below HB.out q1
        replace q2 := cell_below HB.out q2
        replace q3 := cell_below HB.out q3
        replace s0 := cell_below HB.out s0
        replace s1 := cell_below HB.out s1
        replace s2 := cell_below HB.out s2
        replace s3 := cell_below HB.out s3
        clear hx hy
        cases hd : neV x.k x.n x.b x.o y.k y.n y.b y.o
        · have E : Hid (x = y) := by rw [neV_eq] at hd; unfold Hid; simpa using hd
          go_wp2_with fail
          have cu := upon_cell wr wr.heap.size
          refine wp_region_upon (by kernel_rfl) (by kernel_rfl) ?_
          repeat (go_big_quiet_step (fail))
          refine wpQuiet_nil ?_
          intro W' hb'
          have HB3 := Lib.hid (HB.out.trans (hb'.mono HB.out.size))
          clear hb' cu
          go_wp2
          go_roundw
          case rel => exact ⟨k + 1, HLT.out, by go_num, HB3.out, take_same HX.out (by rw [E.out]; exact HY.out) N.out⟩
          case measure => have := HLT.out; simp [intOf]; omega
        · have E : Hid (¬ x = y) := by rw [neV_eq] at hd; unfold Hid; simpa using hd
          go_wp2_with fail
          have cu := upon_cell wr wr.heap.size
          refine wp_region_upon (by kernel_rfl) (by kernel_rfl) ?_
          repeat (go_big_quiet_step (fail))
          refine wpQuiet_nil ?_
          intro W' hb'
          have HB3 := Lib.hid (HB.out.trans (hb'.mono HB.out.size))
          clear hb' cu
          go_wp2
          go_ret
          exact ⟨ret_bool (decide_eq_false (not_same HX.out HY.out E.out)).symm, HB3.out⟩
      · have : k = l.length := by omega
        subst this
        go_wp2
        go_ret
        exact ⟨ret_bool (decide_eq_true (all_same HLEN.out N.out)).symm, HB.out⟩
  · have E := Lib.hid (len_ne hlen)
    have d1 : decide ((l.length : Int) = (m.length : Int)) = false := by simp; omega
    have d2 : ((l.length : Int) == (m.length : Int)) = false := by simp; omega
    have d3 : ((l.length : Int) != (m.length : Int)) = true := by simp; omega
    clear hlen
    go_enter Try.func55, Try.ntmps55
    go_wp2
    go_ret
    exact ⟨ret_bool (decide_eq_false E.out).symm, Below.refl _ _⟩

end Go.Proofs.Ytmelamlngjflkaa

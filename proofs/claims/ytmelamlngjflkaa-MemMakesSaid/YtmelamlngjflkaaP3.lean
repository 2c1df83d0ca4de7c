/- The contracts of what tells whether two memories are the same, block by block: the document's Same and mem.Same. -/
import Derived.Test.YtmelamlngjflkaaRows
import Derived.WalkKit
import Derived.ProofKit
import Derived.OpenShut
import Derived.Below
import Derived.Outline
import Derived.LoopTactic
import Derived.Test.YtmelamlngjflkaaRep
import Derived.Test.YtmelamlngjflkaaU
import Derived.Lib.Hide
import Derived.RegionTactic
import Derived.BigRegion
import Derived.Deep.RegionWith
import Derived.Test.YtmelamlngjflkaaP2
namespace Go.Proofs.Ytmelamlngjflkaa
open Go.ChangeShapes Go.WideShapes Go.ChangeAt Go.RowKit
set_option linter.unusedVariables false

theorem svals_at {l m : List Val} {v u : Value} {b : Bool} (w : World) (hl : VsAt w v l) (hm : VsAt w u m) (h : decide (l = m) = b) : Calls Try.prog 48 #[v, u] w fun e w' => e = .returned (.bool b) ∧ Below w.heap.size w w' := by
  subst h
  exact svals_any w hl hm
theorem equal_at {l m : List Val} {v u : Value} {b : Bool} (w : World) (hl : VsAt w v l) (hm : VsAt w u m) (h : decide (l = m) = b) : Calls Try.prog 55 #[v, u] w fun e w' => e = .returned (.bool b) ∧ Below w.heap.size w w' := by
  subst h
  exact equal_any w hl hm
theorem blk_ext {a b : Blk} (h0 : a.site = b.site) (h1 : a.ty = b.ty) (h2 : a.dep = b.dep) (h3 : a.alive = b.alive) (h4 : a.cells = b.cells) : a = b := by
  cases a; cases b; simp_all
theorem blk_ne0 {a b : Blk} (h : ¬ a.site = b.site) : ¬ a = b := fun e => h (by rw [e])
theorem blk_ne1 {a b : Blk} (h : ¬ a.ty = b.ty) : ¬ a = b := fun e => h (by rw [e])
theorem blk_ne2 {a b : Blk} (h : ¬ a.dep = b.dep) : ¬ a = b := fun e => h (by rw [e])
theorem blk_ne3 {a b : Blk} (h : ¬ a.alive = b.alive) : ¬ a = b := fun e => h (by rw [e])
theorem blk_ne4 {a b : Blk} (h : ¬ a.cells = b.cells) : ¬ a = b := fun e => h (by rw [e])
theorem BsAt.look {w : World} {A : Option Addr} {n c : Nat} {m : List Blk} (h : BsAt w (.slice A n c) m) {i : Nat} {b : Blk} (hi : m[i]? = some b) :
    ∃ g o Ai ci, A = some ⟨g, o, none⟩ ∧ g < w.heap.size ∧ w.cell? ⟨g, o + i * 5, none⟩ = some (.int .i64 b.site) ∧ w.cell? ⟨g, o + i * 5 + 1, none⟩ = some (.int .i64 b.ty) ∧ w.cell? ⟨g, o + i * 5 + 2, none⟩ = some (.int .i64 b.dep) ∧
      w.cell? ⟨g, o + i * 5 + 3, none⟩ = some (.bool b.alive) ∧ w.cell? ⟨g, o + i * 5 + 4, none⟩ = some (.slice Ai b.cells.length ci) ∧ VsAt w (.slice Ai b.cells.length ci) b.cells := by
  obtain ⟨g, o, hA, hg, q0, q1, q2, q3, hv, q4, h5⟩ := h.get hi
  have h5' := h5
  obtain ⟨Ai, ci, rfl, _⟩ := h5'
  exact ⟨g, o, Ai, ci, hA, hg, q0, q1, q2, q3, q4, h5⟩

set_option maxHeartbeats 4000000 in
theorem rsame_any {l m : List Blk} {v u : Value} (w : World) (hl : BsAt w v l) (hm : BsAt w u m) :
    Calls Try.prog 26 #[v, u] w fun e w' => e = .returned (.bool (decide (l = m))) ∧ Below w.heap.size w w' := by
  have hl' := hl
  obtain ⟨A, c, rfl, hlx, hq⟩ := hl'
  have hm' := hm
  obtain ⟨A2, c2, rfl, hmx, hq2⟩ := hm'
  have HL := Lib.hid hl; clear hl
  have HM := Lib.hid hm; clear hm
  clear hq hq2
  by_cases hlen : l.length = m.length
  · have HLEN := Lib.hid hlen
    rw [← hlen]
    clear hlen
    go_enter Try.func26, Try.ntmps26
    go_wp2_with fail
    go_loopw [5] (fun i wr => ∃ k : Nat, k ≤ l.length ∧ i = .int .i64 k ∧ Below w.heap.size w wr ∧ Hid (l.take k = m.take k)) (fun i _ => l.length - (intOf i).toNat)
    case atStart => exact ⟨0, Nat.zero_le _, rfl, Below.refl _ _, by unfold Hid; simp⟩
    case round =>
      obtain ⟨k, hk, rfl, hb, N⟩ := hrel
      have HB := Lib.hid hb; clear hb
      by_cases hlt : k < l.length
      · have HLT := Lib.hid hlt
        obtain ⟨x, hx⟩ : ∃ x, l[k]? = some x := ⟨_, List.getElem?_eq_getElem hlt⟩
        obtain ⟨y, hy⟩ : ∃ y, m[k]? = some y := ⟨_, List.getElem?_eq_getElem (by have := HLEN.out; omega)⟩
        have HX := Lib.hid hx
        have HY := Lib.hid hy
        obtain ⟨g, og, Ai, ci, rfl, hg, q0, q1, q2, q3, q4, h5⟩ := HL.out.look hx
        obtain ⟨g2, og2, Aj, cj, rfl, hg2, s0, s1, s2, s3, s4, h6⟩ := HM.out.look hy
        have hgr : g < wr.heap.size := Nat.lt_of_lt_of_le hg HB.out.size
        have hgr2 : g2 < wr.heap.size := Nat.lt_of_lt_of_le hg2 HB.out.size
        have H5 := Lib.hid (h5.below HB.out)
        have H6 := Lib.hid (h6.below HB.out)
        replace q0 := cell_below HB.out q0
        replace s0 := cell_below HB.out s0
        replace q1 := cell_below HB.out q1
        replace s1 := cell_below HB.out s1
        replace q2 := cell_below HB.out q2
        replace s2 := cell_below HB.out s2
        replace q3 := cell_below HB.out q3
        replace s3 := cell_below HB.out s3
        replace q4 := cell_below HB.out q4
        replace s4 := cell_below HB.out s4
        clear hx hy h5 h6
        by_cases e0 : x.site = y.site
        · have E0 := Lib.hid e0
          rw [← e0] at s0
          clear e0
          by_cases e1 : x.ty = y.ty
          · have E1 := Lib.hid e1
            rw [← e1] at s1
            clear e1
            by_cases e2 : x.dep = y.dep
            · have E2 := Lib.hid e2
              rw [← e2] at s2
              clear e2
              by_cases e3 : x.alive = y.alive
              · have E3 := Lib.hid e3
                rw [← e3] at s3
                clear e3
                cases hc : decide (x.cells = y.cells)
                · have HC := Lib.hid hc; clear hc
                  go_wp2_with fail
                  have cu := upon_cell wr wr.heap.size
                  refine wp_region_upon (by kernel_rfl) (by kernel_rfl) ?_
                  repeat (go_big_quiet_step (first | (go_at_call 48; exact calls_upon (svals_at (b := false) _ (H5.out.below (upon_below _ _ _)) (H6.out.below (upon_below _ _ _)) HC.out))))
                  refine wpQuiet_nil ?_
                  intro W' hb'
                  have HB3 := Lib.hid (HB.out.trans (hb'.mono HB.out.size))
                  clear hb' cu
                  go_wp2
                  go_ret
                  exact ⟨ret_bool (decide_eq_false (not_same HX.out HY.out (blk_ne4 (of_decide_eq_false HC.out)))).symm, HB3.out⟩
                · have HC := Lib.hid hc; clear hc
                  go_wp2_with fail
                  have cu := upon_cell wr wr.heap.size
                  refine wp_region_upon (by kernel_rfl) (by kernel_rfl) ?_
                  repeat (go_big_quiet_step (first | (go_at_call 48; exact calls_upon (svals_at (b := true) _ (H5.out.below (upon_below _ _ _)) (H6.out.below (upon_below _ _ _)) HC.out))))
                  refine wpQuiet_nil ?_
                  intro W' hb'
                  have HB3 := Lib.hid (HB.out.trans (hb'.mono HB.out.size))
                  clear hb' cu
                  go_wp2
                  go_roundw
                  case rel => exact ⟨k + 1, HLT.out, by go_num, HB3.out, take_same HX.out (by rw [blk_ext E0.out E1.out E2.out E3.out (of_decide_eq_true HC.out)]; exact HY.out) N.out⟩
                  case measure => have := HLT.out; simp [intOf]; omega
              · have E3 := Lib.hid e3
                have d1 : (x.alive == y.alive) = false := by simpa using e3
                have d2 : (x.alive != y.alive) = true := by simpa using e3
                clear e3
                go_wp2_with fail
                have cu := upon_cell wr wr.heap.size
                refine wp_region_upon (by kernel_rfl) (by kernel_rfl) ?_
                repeat (go_big_quiet_step (fail))
                refine wpQuiet_nil ?_
                intro W' hb'
                have HB3 := Lib.hid (HB.out.trans (hb'.mono HB.out.size))
                clear hb' cu
                go_wp2
                go_ret
                exact ⟨ret_bool (decide_eq_false (not_same HX.out HY.out (blk_ne3 E3.out))).symm, HB3.out⟩
            · have E2 := Lib.hid e2
              have d1 : (x.dep == y.dep) = false := by simpa using e2
              have d2 : (x.dep != y.dep) = true := by simpa using e2
              clear e2
              go_wp2_with fail
              have cu := upon_cell wr wr.heap.size
              refine wp_region_upon (by kernel_rfl) (by kernel_rfl) ?_
              repeat (go_big_quiet_step (fail))
              refine wpQuiet_nil ?_
              intro W' hb'
              have HB3 := Lib.hid (HB.out.trans (hb'.mono HB.out.size))
              clear hb' cu
              go_wp2
              go_ret
              exact ⟨ret_bool (decide_eq_false (not_same HX.out HY.out (blk_ne2 E2.out))).symm, HB3.out⟩
          · have E1 := Lib.hid e1
            have d1 : (x.ty == y.ty) = false := by simpa using e1
            have d2 : (x.ty != y.ty) = true := by simpa using e1
            clear e1
            go_wp2_with fail
            have cu := upon_cell wr wr.heap.size
            refine wp_region_upon (by kernel_rfl) (by kernel_rfl) ?_
            repeat (go_big_quiet_step (fail))
            refine wpQuiet_nil ?_
            intro W' hb'
            have HB3 := Lib.hid (HB.out.trans (hb'.mono HB.out.size))
            clear hb' cu
            go_wp2
            go_ret
            exact ⟨ret_bool (decide_eq_false (not_same HX.out HY.out (blk_ne1 E1.out))).symm, HB3.out⟩
        · have E0 := Lib.hid e0
          have d1 : (x.site == y.site) = false := by simpa using e0
          have d2 : (x.site != y.site) = true := by simpa using e0
          clear e0
          go_wp2_with fail
          have cu := upon_cell wr wr.heap.size
          refine wp_region_upon (by kernel_rfl) (by kernel_rfl) ?_
          repeat (go_big_quiet_step (fail))
          refine wpQuiet_nil ?_
          intro W' hb'
          have HB3 := Lib.hid (HB.out.trans (hb'.mono HB.out.size))
          clear hb' cu
          go_wp2
          go_ret
          exact ⟨ret_bool (decide_eq_false (not_same HX.out HY.out (blk_ne0 E0.out))).symm, HB3.out⟩
      · have : k = l.length := by omega
        subst this
        go_wp2
        go_ret
        exact ⟨ret_bool (decide_eq_true (all_same HLEN.out N.out)).symm, HB.out⟩
  · have E := Lib.hid (len_ne hlen)
    have d1 : decide ((l.length : Int) = (m.length : Int)) = false := by simp; omega
    have d2 : ((l.length : Int) == (m.length : Int)) = false := by simp; omega
    have d3 : ((l.length : Int) != (m.length : Int)) = true := by simp; omega
    clear hlen
    go_enter Try.func26, Try.ntmps26
    go_wp2
    go_ret
    exact ⟨ret_bool (decide_eq_false E.out).symm, Below.refl _ _⟩

set_option maxHeartbeats 1000000 in
theorem same1_any {x y : Blk} {A A2 : Option Addr} {n n2 c c2 : Nat} (w : World) (hx : VsAt w (.slice A n c) x.cells) (hy : VsAt w (.slice A2 n2 c2) y.cells) :
    Calls Try.prog 54 #[.agg #[.int .i64 x.site, .int .i64 x.ty, .int .i64 x.dep, .bool x.alive, .slice A n c], .agg #[.int .i64 y.site, .int .i64 y.ty, .int .i64 y.dep, .bool y.alive, .slice A2 n2 c2]] w fun e w' => e = .returned (.bool (decide (x = y))) ∧ Below w.heap.size w w' := by
  have HX := Lib.hid hx; clear hx
  have HY := Lib.hid hy; clear hy
  by_cases e0 : x.site = y.site
  · have E0 := Lib.hid e0
    have d0 : (x.site == y.site) = true := by simpa using e0
    clear e0
    by_cases e1 : x.ty = y.ty
    · have E1 := Lib.hid e1
      have d1 : (x.ty == y.ty) = true := by simpa using e1
      clear e1
      by_cases e2 : x.dep = y.dep
      · have E2 := Lib.hid e2
        have d2 : (x.dep == y.dep) = true := by simpa using e2
        clear e2
        by_cases e3 : x.alive = y.alive
        · have E3 := Lib.hid e3
          have d3 : (x.alive == y.alive) = true := by simpa using e3
          clear e3
          cases hc : decide (x.cells = y.cells)
          · have HC := Lib.hid hc; clear hc
            rw [decide_eq_false (blk_ne4 (of_decide_eq_false HC.out))]
            go_enter Try.func54, Try.ntmps54
            go_wp2_with fail
            (with_reducible refine (equal_at (b := false) _ (HX.out.below (by repeat (first | exact Below.refl _ _ | (with_reducible refine Below.drew ?_) | refine Below.setCell ?_ (by simp) _ | refine Below.alloc ?_ (by simp <;> omega) _))) (HY.out.below (by repeat (first | exact Below.refl _ _ | (with_reducible refine Below.drew ?_) | refine Below.setCell ?_ (by simp) _ | refine Below.alloc ?_ (by simp <;> omega) _))) HC.out).mono ?_); rintro e w1 ⟨rfl, b1⟩
            have B1 : Hid (Below w.heap.size w w1) := Below.trans (B := w.heap.size) (by repeat (first | exact Below.refl _ _ | (with_reducible refine Below.drew ?_) | refine Below.setCell ?_ (by simp) _ | refine Below.alloc ?_ (by simp <;> omega) _)) (b1.mono (by simp <;> omega))
            clear b1
            go_wp2
            go_ret
            exact ⟨rfl, B1.out⟩
          · have HC := Lib.hid hc; clear hc
            rw [decide_eq_true (blk_ext E0.out E1.out E2.out E3.out (of_decide_eq_true HC.out))]
            go_enter Try.func54, Try.ntmps54
            go_wp2_with fail
            (with_reducible refine (equal_at (b := true) _ (HX.out.below (by repeat (first | exact Below.refl _ _ | (with_reducible refine Below.drew ?_) | refine Below.setCell ?_ (by simp) _ | refine Below.alloc ?_ (by simp <;> omega) _))) (HY.out.below (by repeat (first | exact Below.refl _ _ | (with_reducible refine Below.drew ?_) | refine Below.setCell ?_ (by simp) _ | refine Below.alloc ?_ (by simp <;> omega) _))) HC.out).mono ?_); rintro e w1 ⟨rfl, b1⟩
            have B1 : Hid (Below w.heap.size w w1) := Below.trans (B := w.heap.size) (by repeat (first | exact Below.refl _ _ | (with_reducible refine Below.drew ?_) | refine Below.setCell ?_ (by simp) _ | refine Below.alloc ?_ (by simp <;> omega) _)) (b1.mono (by simp <;> omega))
            clear b1
            go_wp2
            go_ret
            exact ⟨rfl, B1.out⟩
        · rw [decide_eq_false (blk_ne3 e3)]
          have d3 : (x.alive == y.alive) = false := by simpa using e3
          clear e3
          go_enter Try.func54, Try.ntmps54
          go_wp2
          go_ret
          exact ⟨rfl, (by repeat (first | exact Below.refl _ _ | (with_reducible refine Below.drew ?_) | refine Below.setCell ?_ (by simp) _ | refine Below.alloc ?_ (by simp <;> omega) _))⟩
      · rw [decide_eq_false (blk_ne2 e2)]
        have d2 : (x.dep == y.dep) = false := by simpa using e2
        clear e2
        go_enter Try.func54, Try.ntmps54
        go_wp2
        go_ret
        exact ⟨rfl, (by repeat (first | exact Below.refl _ _ | (with_reducible refine Below.drew ?_) | refine Below.setCell ?_ (by simp) _ | refine Below.alloc ?_ (by simp <;> omega) _))⟩
    · rw [decide_eq_false (blk_ne1 e1)]
      have d1 : (x.ty == y.ty) = false := by simpa using e1
      clear e1
      go_enter Try.func54, Try.ntmps54
      go_wp2
      go_ret
      exact ⟨rfl, (by repeat (first | exact Below.refl _ _ | (with_reducible refine Below.drew ?_) | refine Below.setCell ?_ (by simp) _ | refine Below.alloc ?_ (by simp <;> omega) _))⟩
  · rw [decide_eq_false (blk_ne0 e0)]
    have d0 : (x.site == y.site) = false := by simpa using e0
    clear e0
    go_enter Try.func54, Try.ntmps54
    go_wp2
    go_ret
    exact ⟨rfl, (by repeat (first | exact Below.refl _ _ | (with_reducible refine Below.drew ?_) | refine Below.setCell ?_ (by simp) _ | refine Below.alloc ?_ (by simp <;> omega) _))⟩

theorem same1_at {x y : Blk} {A A2 : Option Addr} {n n2 c c2 : Nat} {b : Bool} (w : World) (hx : VsAt w (.slice A n c) x.cells) (hy : VsAt w (.slice A2 n2 c2) y.cells) (h : decide (x = y) = b) :
    Calls Try.prog 54 #[.agg #[.int .i64 x.site, .int .i64 x.ty, .int .i64 x.dep, .bool x.alive, .slice A n c], .agg #[.int .i64 y.site, .int .i64 y.ty, .int .i64 y.dep, .bool y.alive, .slice A2 n2 c2]] w fun e w' => e = .returned (.bool b) ∧ Below w.heap.size w w' := by
  subst h
  exact same1_any w hx hy

set_option maxHeartbeats 4000000 in
theorem eqf_any {l m : List Blk} {v u : Value} (w : World) (hl : BsAt w v l) (hm : BsAt w u m) :
    Calls Try.prog 53 #[v, u, .func (Fn.func 54) #[] #[]] w fun e w' => e = .returned (.bool (decide (l = m))) ∧ Below w.heap.size w w' := by
  have hl' := hl
  obtain ⟨A, c, rfl, hlx, hq⟩ := hl'
  have hm' := hm
  obtain ⟨A2, c2, rfl, hmx, hq2⟩ := hm'
  have HL := Lib.hid hl; clear hl
  have HM := Lib.hid hm; clear hm
  clear hq hq2
  by_cases hlen : l.length = m.length
  · have HLEN := Lib.hid hlen
    rw [← hlen]
    clear hlen
    go_enter Try.func53, Try.ntmps53
    go_wp2_with fail
    go_loopw [7, 8, 9, 17] (fun _ _ _ i wr => ∃ k : Nat, k ≤ l.length ∧ i = .int .i64 k ∧ Below w.heap.size w wr ∧ Hid (l.take k = m.take k)) (fun _ _ _ i _ => l.length - (intOf i).toNat)
    case atStart => exact ⟨0, Nat.zero_le _, rfl, Below.refl _ _, by unfold Hid; simp⟩
    case round =>
      obtain ⟨k, hk, rfl, hb, N⟩ := hrel
      have HB := Lib.hid hb; clear hb
      by_cases hlt : k < l.length
      · have HLT := Lib.hid hlt
        obtain ⟨x, hx⟩ : ∃ x, l[k]? = some x := ⟨_, List.getElem?_eq_getElem hlt⟩
        obtain ⟨y, hy⟩ : ∃ y, m[k]? = some y := ⟨_, List.getElem?_eq_getElem (by have := HLEN.out; omega)⟩
        have HX := Lib.hid hx
        have HY := Lib.hid hy
        obtain ⟨g, og, Ai, ci, rfl, hg, q0, q1, q2, q3, q4, h5⟩ := HL.out.look hx
        obtain ⟨g2, og2, Aj, cj, rfl, hg2, s0, s1, s2, s3, s4, h6⟩ := HM.out.look hy
        have hgr : g < wr.heap.size := Nat.lt_of_lt_of_le hg HB.out.size
        have hgr2 : g2 < wr.heap.size := Nat.lt_of_lt_of_le hg2 HB.out.size
        have H5 := Lib.hid (h5.below HB.out)
        have H6 := Lib.hid (h6.below HB.out)
        replace q0 := cell_below HB.out q0
        replace s0 := cell_below HB.out s0
        replace q1 := cell_below HB.out q1
        replace s1 := cell_below HB.out s1
        replace q2 := cell_below HB.out q2
        replace s2 := cell_below HB.out s2
        replace q3 := cell_below HB.out q3
        replace s3 := cell_below HB.out s3
        replace q4 := cell_below HB.out q4
        replace s4 := cell_below HB.out s4
        clear hx hy h5 h6
        cases hd : decide (x = y)
        · have HD := Lib.hid hd; clear hd
          go_wp2_with fail
          (with_reducible refine (same1_at (b := false) _ (H5.out.below (by repeat (first | exact Below.refl _ _ | (with_reducible refine Below.drew ?_) | refine Below.setCell ?_ (by simp) _ | refine Below.alloc ?_ (by simp <;> omega) _))) (H6.out.below (by repeat (first | exact Below.refl _ _ | (with_reducible refine Below.drew ?_) | refine Below.setCell ?_ (by simp) _ | refine Below.alloc ?_ (by simp <;> omega) _))) HD.out).mono ?_); rintro e w1 ⟨rfl, b1⟩
          have B1 : Hid (Below w.heap.size w w1) := (HB.out.trans (Below.trans (B := w.heap.size) (by have := HB.out.size; repeat (first | exact Below.refl _ _ | refine Below.setCell ?_ (by first | omega | (simp; omega)) _ | refine Below.alloc ?_ (by first | omega | (simp; omega)) _)) (b1.mono (by have := HB.out.size; simp <;> omega))))
          clear b1
          go_wp2
          go_ret
          exact ⟨ret_bool (decide_eq_false (not_same HX.out HY.out (of_decide_eq_false HD.out))).symm, B1.out⟩
        · have HD := Lib.hid hd; clear hd
          go_wp2_with fail
          (with_reducible refine (same1_at (b := true) _ (H5.out.below (by repeat (first | exact Below.refl _ _ | (with_reducible refine Below.drew ?_) | refine Below.setCell ?_ (by simp) _ | refine Below.alloc ?_ (by simp <;> omega) _))) (H6.out.below (by repeat (first | exact Below.refl _ _ | (with_reducible refine Below.drew ?_) | refine Below.setCell ?_ (by simp) _ | refine Below.alloc ?_ (by simp <;> omega) _))) HD.out).mono ?_); rintro e w1 ⟨rfl, b1⟩
          have B1 : Hid (Below w.heap.size w w1) := (HB.out.trans (Below.trans (B := w.heap.size) (by have := HB.out.size; repeat (first | exact Below.refl _ _ | refine Below.setCell ?_ (by first | omega | (simp; omega)) _ | refine Below.alloc ?_ (by first | omega | (simp; omega)) _)) (b1.mono (by have := HB.out.size; simp <;> omega))))
          clear b1 q0 q1 q2 q3 q4 s0 s1 s2 s3 s4
          go_wp2
          go_roundw
          case rel => exact ⟨k + 1, HLT.out, by go_num, B1.out, take_same HX.out (by rw [of_decide_eq_true HD.out]; exact HY.out) N.out⟩
          case measure => have := HLT.out; simp [intOf]; omega
      · have : k = l.length := by omega
        subst this
        go_wp2
        go_ret
        exact ⟨ret_bool (decide_eq_true (all_same HLEN.out N.out)).symm, HB.out⟩
  · have E := Lib.hid (len_ne hlen)
    have d1 : decide ((l.length : Int) = (m.length : Int)) = false := by simp; omega
    have d2 : ((l.length : Int) == (m.length : Int)) = false := by simp; omega
    have d3 : ((l.length : Int) != (m.length : Int)) = true := by simp; omega
    clear hlen
    go_enter Try.func53, Try.ntmps53
    go_wp2
    go_ret
    exact ⟨ret_bool (decide_eq_false E.out).symm, Below.refl _ _⟩

theorem same_any {l m : List Blk} {v u : Value} (w : World) (hl : BsAt w v l) (hm : BsAt w u m) :
    Calls Try.prog 32 #[v, u] w fun e w' => e = .returned (.bool (decide (l = m))) ∧ Below w.heap.size w w' := by
  have HL := Lib.hid hl; clear hl
  have HM := Lib.hid hm; clear hm
  go_enter Try.func32, Try.ntmps32
  go_wp2_with fail
  (with_reducible refine (eqf_any _ HL.out HM.out).mono ?_); rintro e w1 ⟨rfl, h1⟩
  go_wp2
  go_ret
  exact ⟨rfl, h1⟩

end Go.Proofs.Ytmelamlngjflkaa

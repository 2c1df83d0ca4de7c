/- The contracts of the document's own answers on whole memories: May, Check, Life, Holds, Depth. -/
import Derived.Test.YtmelamlngjflkaaRows
import Derived.WalkKit
import Derived.ProofKit
import Derived.OpenShut
import Derived.Below
import Derived.Outline
import Derived.LoopTactic
import Derived.Test.YtmelamlngjflkaaRep
import Derived.Test.YtmelamlngjflkaaU
import Derived.Lib.Hide
import Derived.RegionTactic
import Derived.BigRegion
import Derived.Deep.RegionWith
import Derived.Test.YtmelamlngjflkaaF
namespace Go.Proofs.Ytmelamlngjflkaa
open Go.ChangeShapes Go.WideShapes Go.ChangeAt Go.RowKit
set_option linter.unusedVariables false

theorem ris_yes {m : List Blk} {v : Value} (x : Val) (w : World) (hm : BsAt w v m) (h : isB m x = true) : Calls Try.prog 50 #[v, .agg #[.int .u8 x.k, .int .i64 x.n, .int .i64 x.b, .int .i64 x.o]] w fun e w' => e = .returned (.bool true) ∧ Below w.heap.size w w' := by rw [← h]; exact ris_any x w hm
theorem ris_not {m : List Blk} {v : Value} (x : Val) (w : World) (hm : BsAt w v m) (h : isB m x = false) : Calls Try.prog 50 #[v, .agg #[.int .u8 x.k, .int .i64 x.n, .int .i64 x.b, .int .i64 x.o]] w fun e w' => e = .returned (.bool false) ∧ Below w.heap.size w w' := by rw [← h]; exact ris_any x w hm

theorem may_long {m : List Blk} (h : 4096 < m.length) : mayM m = false := by
  unfold mayM
  rw [decide_eq_false (by omega), Bool.false_and]
theorem may_bad {m : List Blk} {b : Blk} (hb : b ∈ m) (h : blkB m b = false) : mayM m = false := by
  unfold mayM
  rw [Bool.and_eq_false_iff]
  right
  rw [List.all_eq_false]
  exact ⟨b, hb, by simp [h]⟩
theorem may_good {m : List Blk} (h0 : m.length ≤ 4096) (h : ∀ b ∈ m, blkB m b = true) : mayM m = true := by
  unfold mayM
  rw [decide_eq_true h0, Bool.true_and, List.all_eq_true]
  exact h
theorem blk_cell {m : List Blk} {b : Blk} {x : Val} (hx : x ∈ b.cells) (h : isB m x = false) : blkB m b = false := by
  unfold blkB
  rw [Bool.and_eq_false_iff]
  right
  rw [List.all_eq_false]
  exact ⟨x, hx, by simp [h]⟩
theorem blk_good {m : List Blk} {b : Blk} (h : 0 ≤ b.site ∧ 0 ≤ b.ty ∧ 0 ≤ b.dep ∧ 1 ≤ b.cells.length ∧ b.cells.length ≤ 32) (hc : ∀ x ∈ b.cells, isB m x = true) : blkB m b = true := by
  unfold blkB
  rw [decide_eq_true h, Bool.true_and, List.all_eq_true]
  exact hc
theorem take_more {α : Type} {l : List α} {p : α → Prop} {k : Nat} {y : α} (hy : l[k]? = some y) (h : ∀ x ∈ l.take k, p x) (hp : p y) : ∀ x ∈ l.take (k + 1), p x := by
  obtain ⟨hk, rfl⟩ := List.getElem?_eq_some_iff.1 hy
  intro x hx
  rw [List.take_succ_eq_append_getElem hk, List.mem_append] at hx
  rcases hx with hx | hx
  · exact h x hx
  · simp at hx; subst hx; exact hp

theorem lifeB_mem {m : List Blk} {b : Blk} (hb : b ∈ m) (h : badB m b = true) : lifeB m = false := by
  unfold lifeB
  rw [List.all_eq_false]
  exact ⟨b, hb, by simp [h]⟩

set_option maxHeartbeats 2000000 in
theorem rmay_any {m : List Blk} {v : Value} (w : World) (hm : BsAt w v m) :
    Calls Try.prog 44 #[v] w fun e w' => e = .returned (.bool (mayM m)) ∧ Below w.heap.size w w' := by
  have hm' := hm
  obtain ⟨A, c, rfl, hl, hq⟩ := hm'
  have HM := Lib.hid hm; clear hm
  clear hq
  by_cases hlong : 4096 < m.length
  · have E := Lib.hid (may_long hlong)
    go_enter Try.func44, Try.ntmps44
    go_wp2
    go_ret
    exact ⟨ret_bool E.out.symm, Below.refl _ _⟩
  go_enter Try.func44, Try.ntmps44
  go_wp2_with fail
  go_loopw [3, 4] (fun i _ wr => ∃ k : Nat, k ≤ m.length ∧ i = .int .i64 k ∧ Below w.heap.size w wr ∧ Hid (∀ b ∈ m.take k, blkB m b = true)) (fun i _ _ => m.length - (intOf i).toNat)
  case atStart => exact ⟨0, Nat.zero_le _, rfl, Below.refl _ _, by unfold Hid; simp⟩
  case round =>
    obtain ⟨k, hk, rfl, hb, N⟩ := hrel
    have HB := Lib.hid hb; clear hb
    by_cases hlt : k < m.length
    · have HLT := Lib.hid hlt
      obtain ⟨b, hbk⟩ : ∃ b, m[k]? = some b := ⟨_, List.getElem?_eq_getElem hlt⟩
      have HBK := Lib.hid hbk
      have HMB := Lib.hid (List.mem_of_getElem? hbk)
      obtain ⟨g, og, rfl, hg, q0, q1, q2, q3, hv, q4, h5⟩ := HM.out.get hbk
      clear hbk
      obtain ⟨Ai, ci, rfl, hl5, hx5⟩ := h5
      have H5 : Hid (VsAt w (.slice Ai b.cells.length ci) b.cells) := ⟨Ai, ci, rfl, hl5, hx5⟩
      clear hx5
      have r0 := cell_below HB.out q0
      have r1 := cell_below HB.out q1
      have r2 := cell_below HB.out q2
      have r4 := cell_below HB.out q4
      have hgr : g < wr.heap.size := Nat.lt_of_lt_of_le hg HB.out.size
      clear q0 q1 q2 q3 q4
      by_cases hgood : 0 ≤ b.site ∧ 0 ≤ b.ty ∧ 0 ≤ b.dep ∧ 1 ≤ b.cells.length ∧ b.cells.length ≤ 32
      · have HG := Lib.hid hgood
        obtain ⟨g0, g1, g2, g3, g4⟩ := hgood
        obtain ⟨wo, rfl⟩ : ∃ wo : World, wo = wr := ⟨_, rfl⟩
        go_wp2_with fail
        go_loopw [4] (fun j w2 => ∃ n : Nat, n ≤ b.cells.length ∧ j = .int .i64 n ∧ Below wo.heap.size wo w2 ∧ Hid (∀ x ∈ b.cells.take n, isB m x = true)) (fun j _ => b.cells.length - (intOf j).toNat)
        case atStart => exact ⟨0, Nat.zero_le _, rfl, Below.refl _ _, by unfold Hid; simp⟩
        case round =>
          obtain ⟨n, hn, rfl, hb2, N2⟩ := hrel
          have HB2 := Lib.hid hb2
          have s4 := cell_below hb2 r4
          have sg := Nat.lt_of_lt_of_le hgr hb2.size
          have HW := Lib.hid (HB.out.trans (hb2.mono HB.out.size))
          clear hb2
          by_cases hnl : n < b.cells.length
          · obtain ⟨x, hxn⟩ : ∃ x, b.cells[n]? = some x := ⟨_, List.getElem?_eq_getElem hnl⟩
            have HXN := Lib.hid hxn
            have HMX := Lib.hid (List.mem_of_getElem? hxn)
            obtain ⟨gi, oi, rfl, hgi, t0, t1, t2, t3⟩ := H5.out.get hxn
            clear hxn
            have HNL := Lib.hid hnl
            have tg : gi < wr.heap.size := Nat.lt_of_lt_of_le hgi HW.out.size
            replace t0 := cell_below HW.out t0
            replace t1 := cell_below HW.out t1
            replace t2 := cell_below HW.out t2
            replace t3 := cell_below HW.out t3
            cases hi : isB m x
            · have HI := Lib.hid hi; clear hi
              go_wp2_with fail
              (with_reducible refine (ris_not x _ (HM.out.below HW.out) HI.out).mono ?_); rintro e w3 ⟨rfl, b3⟩
              have HB3 := Lib.hid (HW.out.trans (b3.mono HW.out.size))
              clear b3
              go_wp2
              go_ret
              exact ⟨ret_bool (may_bad (HMB.out) (blk_cell (HMX.out) HI.out)).symm, HB3.out⟩
            · have HI := Lib.hid hi; clear hi
              go_wp2_with fail
              (with_reducible refine (ris_yes x _ (HM.out.below HW.out) HI.out).mono ?_); rintro e w3 ⟨rfl, b3⟩
              have HB3 := Lib.hid (HB2.out.trans (b3.mono HB2.out.size))
              clear b3
              go_wp2
              go_roundw
              case rel => exact ⟨n + 1, HNL.out, by go_num, HB3.out, take_more HXN.out N2.out HI.out⟩
              case measure => have := HNL.out; simp [intOf]; omega
          · have : n = b.cells.length := by omega
            subst this
            go_wp2
            go_roundw
            case rel => exact ⟨k + 1, HLT.out, by go_num, HW.out, take_more HBK.out N.out (blk_good HG.out (by have := N2.out; rwa [List.take_length] at this))⟩
            case measure => have := HLT.out; simp [intOf]; omega
      · have EB := Lib.hid (may_bad (HMB.out) (blk_not hgood))
        by_cases g0 : 0 ≤ b.site
        · by_cases g1 : 0 ≤ b.ty
          · by_cases g2 : 0 ≤ b.dep
            · by_cases g3 : 1 ≤ b.cells.length
              · have g4 : ¬ b.cells.length ≤ 32 := by omega
                clear hgood
                go_wp2
                go_ret
                exact ⟨ret_bool EB.out.symm, HB.out⟩
              · clear hgood
                go_wp2
                go_ret
                exact ⟨ret_bool EB.out.symm, HB.out⟩
            · clear hgood
              go_wp2
              go_ret
              exact ⟨ret_bool EB.out.symm, HB.out⟩
          · clear hgood
            go_wp2
            go_ret
            exact ⟨ret_bool EB.out.symm, HB.out⟩
        · clear hgood
          go_wp2
          go_ret
          exact ⟨ret_bool EB.out.symm, HB.out⟩
    · have : k = m.length := by omega
      subst this
      have E := Lib.hid (may_good (m := m) (by omega) (by have := N.out; rwa [List.take_length] at this))
      go_wp2
      go_ret
      exact ⟨ret_bool E.out.symm, HB.out⟩

theorem rmay_at {m : List Blk} {v : Value} {b : Bool} (w : World) (hm : BsAt w v m) (h : mayM m = b) : Calls Try.prog 44 #[v] w fun e w' => e = .returned (.bool b) ∧ Below w.heap.size w w' := by
  subst h
  exact rmay_any w hm

theorem rcheck_any {m : List Blk} {v : Value} (w : World) (hm : BsAt w v m) :
    Calls Try.prog 31 #[v] w fun e w' => e = .returned (.int .i64 (checkI m)) ∧ Below w.heap.size w w' := by
  have HM := Lib.hid hm; clear hm
  cases h : mayM m
  · rw [checkI_no h]
    have HI := Lib.hid h; clear h
    go_enter Try.func31, Try.ntmps31
    go_wp2_with fail
    (with_reducible refine (rmay_at (b := false) _ HM.out HI.out).mono ?_); rintro e w1 ⟨rfl, b⟩
    go_wp2
    go_ret
    exact ⟨rfl, b⟩
  · rw [checkI_yes h]
    have HI := Lib.hid h; clear h
    go_enter Try.func31, Try.ntmps31
    go_wp2_with fail
    (with_reducible refine (rmay_at (b := true) _ HM.out HI.out).mono ?_); rintro e w1 ⟨rfl, b⟩
    go_wp2
    go_ret
    exact ⟨rfl, b⟩

theorem rdepth_any {m : List Blk} {v : Value} (p : Val) (w : World) (hm : BsAt w v m) :
    Calls Try.prog 29 #[v, .agg #[.int .u8 p.k, .int .i64 p.n, .int .i64 p.b, .int .i64 p.o]] w fun e w' => e = .returned (.tuple #[.int .i64 (depthV m p), .int .i64 (depthI m p)]) ∧ Below w.heap.size w w' := by
  have HM := Lib.hid hm; clear hm
  have B1 := Lib.hid (fun (o : Obj) => (Below.refl w.heap.size w).alloc (Nat.le_refl _) o)
  unfold depthV depthI
  cases hmay : mayM m
  · have HY := Lib.hid hmay; clear hmay
    simp only [Bool.false_eq_true, false_and, if_false]
    go_enter Try.func29, Try.ntmps29
    go_wp2_with fail
    (with_reducible refine (rmay_at (b := false) _ (HM.out.below (B1.out _)) HY.out).mono ?_); rintro e w1 ⟨rfl, h1⟩
    go_wp2
    go_ret2
    exact ⟨rfl, (B1.out _).trans (h1.mono (by simp))⟩
  · have HY := Lib.hid hmay; clear hmay
    cases hi : isB m p
    · have HI := Lib.hid hi; clear hi
      simp only [Bool.false_eq_true, and_false, if_false, if_true]
      go_enter Try.func29, Try.ntmps29
      go_wp2_with fail
      (with_reducible refine (rmay_at (b := true) _ (HM.out.below (B1.out _)) HY.out).mono ?_); rintro e w1 ⟨rfl, h1⟩
      obtain ⟨c1, f1⟩ := bcell h1
      have H1 := Lib.hid h1; clear h1
      go_wp2_with fail
      (with_reducible refine (ris_not p _ (HM.out.below ((B1.out _).trans (H1.out.mono (by simp)))) HI.out).mono ?_); rintro e w2 ⟨rfl, h2⟩
      go_wp2
      go_ret2
      exact ⟨rfl, ((B1.out _).trans (H1.out.mono (by simp))).trans (h2.mono (by have := H1.out.size; simp at this; omega))⟩
    · have HI := Lib.hid hi; clear hi
      simp only [and_self, if_true]
      go_enter Try.func29, Try.ntmps29
      go_wp2_with fail
      (with_reducible refine (rmay_at (b := true) _ (HM.out.below (B1.out _)) HY.out).mono ?_); rintro e w1 ⟨rfl, h1⟩
      obtain ⟨c1, f1⟩ := bcell h1
      have H1 := Lib.hid ((B1.out _).trans (h1.mono (by simp)))
      have z1 : w.heap.size < w1.heap.size := by have := h1.size; simp at this; omega
      clear h1
      go_wp2_with fail
      (with_reducible refine (ris_yes p _ (HM.out.below H1.out) HI.out).mono ?_); rintro e w2 ⟨rfl, h2⟩
      obtain ⟨c2, f2⟩ := bcell h2
      have H2 := Lib.hid (H1.out.trans (h2.mono (by omega)))
      have z2 : w.heap.size < w2.heap.size := by have := h2.size; omega
      clear h2
      go_wp2_with fail
      (with_reducible refine (rdeep_any p _ (HM.out.below H2.out) HI.out).mono ?_); rintro e w3 ⟨rfl, h3⟩
      go_wp2
      go_ret2
      exact ⟨rfl, H2.out.trans (h3.mono (by omega))⟩

theorem rdeep_at {m : List Blk} {v : Value} {d : Int} (x : Val) (w : World) (hm : BsAt w v m) (hx : isB m x = true) (hd : deepB m x = d) :
    Calls Try.prog 51 #[v, .agg #[.int .u8 x.k, .int .i64 x.n, .int .i64 x.b, .int .i64 x.o]] w fun e w' => e = .returned (.int .i64 d) ∧ Below w.heap.size w w' := by
  subst hd
  exact rdeep_any x w hm hx

theorem life_dead {m : List Blk} {b : Blk} (h : b.alive = false) : badB m b = false := by rw [badB, h, Bool.false_and]
theorem life_cell {m : List Blk} {b : Blk} {x : Val} (ha : b.alive = true) (hx : x ∈ b.cells) (h : b.dep < deepB m x) : badB m b = true := by
  rw [badB, ha, Bool.true_and, List.any_eq_true]
  exact ⟨x, hx, by simpa using h⟩
theorem life_live {m : List Blk} {b : Blk} (h : ∀ x ∈ b.cells, deepB m x ≤ b.dep) : badB m b = false := by
  rw [badB, Bool.and_eq_false_iff]
  right
  rw [List.any_eq_false]
  intro x hx
  have := h x hx
  simp
  omega

set_option maxHeartbeats 2000000 in
theorem rlife_any {m : List Blk} {v : Value} (w : World) (hm : BsAt w v m) (hy : mayM m = true) :
    Calls Try.prog 52 #[v] w fun e w' => e = .returned (.bool (lifeB m)) ∧ Below w.heap.size w w' := by
  have hm' := hm
  obtain ⟨A, c, rfl, hl, hq⟩ := hm'
  have HM := Lib.hid hm; clear hm
  have HY := Lib.hid hy; clear hy
  clear hq
  go_enter Try.func52, Try.ntmps52
  go_wp2_with fail
  go_loopw [3, 4] (fun i _ wr => ∃ k : Nat, k ≤ m.length ∧ i = .int .i64 k ∧ Below w.heap.size w wr ∧ Hid (∀ b ∈ m.take k, badB m b = false)) (fun i _ _ => m.length - (intOf i).toNat)
  case atStart => exact ⟨0, Nat.zero_le _, rfl, Below.refl _ _, by unfold Hid; simp⟩
  case round =>
    obtain ⟨k, hk, rfl, hb, N⟩ := hrel
    have HB := Lib.hid hb; clear hb
    by_cases hlt : k < m.length
    · have HLT := Lib.hid hlt
      obtain ⟨b, hbk⟩ : ∃ b, m[k]? = some b := ⟨_, List.getElem?_eq_getElem hlt⟩
      have HBK := Lib.hid hbk
      have HMB := Lib.hid (List.mem_of_getElem? hbk)
      obtain ⟨g, og, rfl, hg, q0, q1, q2, q3, hv, q4, h5⟩ := HM.out.get hbk
      clear hbk
      obtain ⟨Ai, ci, rfl, hl5, hx5⟩ := h5
      have H5 : Hid (VsAt w (.slice Ai b.cells.length ci) b.cells) := ⟨Ai, ci, rfl, hl5, hx5⟩
      clear hx5
      have r2 := cell_below HB.out q2
      have r3 := cell_below HB.out q3
      have r4 := cell_below HB.out q4
      have hgr : g < wr.heap.size := Nat.lt_of_lt_of_le hg HB.out.size
      clear q0 q1 q2 q3 q4
      obtain ⟨wo, rfl⟩ : ∃ wo : World, wo = wr := ⟨_, rfl⟩
      cases hal : b.alive
      · have EB := Lib.hid (life_dead (m := m) hal)
        rw [hal] at r3
        clear hal
        go_wp2_with fail
        go_loopw [4] (fun j w2 => ∃ n : Nat, n ≤ b.cells.length ∧ j = .int .i64 n ∧ Below wo.heap.size wo w2) (fun j _ => b.cells.length - (intOf j).toNat)
        case atStart => exact ⟨0, Nat.zero_le _, rfl, Below.refl _ _⟩
        case round =>
          obtain ⟨n, hn, rfl, hb2⟩ := hrel
          have HB2 := Lib.hid hb2
          have s3 := cell_below hb2 r3
          have s4 := cell_below hb2 r4
          have sg := Nat.lt_of_lt_of_le hgr hb2.size
          have HW := Lib.hid (HB.out.trans (hb2.mono HB.out.size))
          clear hb2
          by_cases hnl : n < b.cells.length
          · have HNL := Lib.hid hnl
            go_wp2_with fail
            have cu := upon_cell wr wr.heap.size
            refine wp_region_upon (by kernel_rfl) (by kernel_rfl) ?_
            repeat (go_big_quiet_step (fail))
            refine wpQuiet_nil ?_
            intro W' hb'
            have HB3 := Lib.hid (HB2.out.trans (hb'.mono HB2.out.size))
            clear hb' cu
            go_wp2
            go_roundw
            case rel => exact ⟨n + 1, HNL.out, by go_num, HB3.out⟩
            case measure => have := HNL.out; simp [intOf]; omega
          · have : n = b.cells.length := by omega
            subst this
            go_wp2
            go_roundw
            case rel => exact ⟨k + 1, HLT.out, by go_num, HW.out, take_more HBK.out N.out EB.out⟩
            case measure => have := HLT.out; simp [intOf]; omega
      · have HAL := Lib.hid hal
        rw [hal] at r3
        clear hal
        go_wp2_with fail
        go_loopw [4] (fun j w2 => ∃ n : Nat, n ≤ b.cells.length ∧ j = .int .i64 n ∧ Below wo.heap.size wo w2 ∧ Hid (∀ x ∈ b.cells.take n, deepB m x ≤ b.dep)) (fun j _ => b.cells.length - (intOf j).toNat)
        case atStart => exact ⟨0, Nat.zero_le _, rfl, Below.refl _ _, by unfold Hid; simp⟩
        case round =>
          obtain ⟨n, hn, rfl, hb2, N2⟩ := hrel
          have HB2 := Lib.hid hb2
          have s2 := cell_below hb2 r2
          have s3 := cell_below hb2 r3
          have s4 := cell_below hb2 r4
          have sg := Nat.lt_of_lt_of_le hgr hb2.size
          have HW := Lib.hid (HB.out.trans (hb2.mono HB.out.size))
          clear hb2
          by_cases hnl : n < b.cells.length
          · have HNL := Lib.hid hnl
            obtain ⟨x, hxn⟩ : ∃ x, b.cells[n]? = some x := ⟨_, List.getElem?_eq_getElem hnl⟩
            have HXN := Lib.hid hxn
            have HMX := Lib.hid (List.mem_of_getElem? hxn)
            obtain ⟨gi, oi, rfl, hgi, t0, t1, t2, t3⟩ := H5.out.get hxn
            clear hxn
            have tg : gi < wr.heap.size := Nat.lt_of_lt_of_le hgi HW.out.size
            replace t0 := cell_below HW.out t0
            replace t1 := cell_below HW.out t1
            replace t2 := cell_below HW.out t2
            replace t3 := cell_below HW.out t3
            have HX := Lib.hid (cells_is HY.out (HMB.out) (HMX.out))
            have HMW := Lib.hid (HM.out.below HW.out)
            obtain ⟨d, hd⟩ : ∃ d, d = deepB m x := ⟨_, rfl⟩
            have HD := Lib.hid hd; clear hd
            go_wp2_with fail
            have cu := upon_cell wr wr.heap.size
            refine wp_region_upon (by kernel_rfl) (by kernel_rfl) ?_
            repeat (go_big_quiet_step (first | (go_at_call 51; exact calls_upon (rdeep_at (d := d) x _ (HMW.out.below (upon_below _ _ _)) HX.out HD.out.symm))))
            refine wpQuiet_nil ?_
            intro W' hb'
            have HB3 := Lib.hid (HB2.out.trans (hb'.mono HB2.out.size))
            clear hb' cu
            by_cases hbad : b.dep < d
            · have HBAD := Lib.hid hbad
              go_wp2
              go_ret
              exact ⟨ret_bool (lifeB_mem HMB.out (life_cell HAL.out (HMX.out) (by rw [← HD.out]; exact HBAD.out))).symm, HB.out.trans (HB3.out.mono HB.out.size)⟩
            · have HBAD := Lib.hid hbad
              go_wp2
              go_roundw
              case rel => exact ⟨n + 1, HNL.out, by go_num, HB3.out, take_more HXN.out N2.out (by rw [← HD.out]; have := HBAD.out; omega)⟩
              case measure => have := HNL.out; simp [intOf]; omega
          · have : n = b.cells.length := by omega
            subst this
            go_wp2
            go_roundw
            case rel => exact ⟨k + 1, HLT.out, by go_num, HW.out, take_more HBK.out N.out (life_live (by have := N2.out; rwa [List.take_length] at this))⟩
            case measure => have := HLT.out; simp [intOf]; omega
    · have : k = m.length := by omega
      subst this
      have E := Lib.hid (lifeB_yes (m := m) (by have := N.out; rwa [List.take_length] at this))
      go_wp2
      go_ret
      exact ⟨ret_bool E.out.symm, HB.out⟩

theorem rholds_any {m : List Blk} {v : Value} (w : World) (hm : BsAt w v m) :
    Calls Try.prog 30 #[v] w fun e w' => e = .returned (.tuple #[.bool (holdsB m), .int .i64 (holdsI m)]) ∧ Below w.heap.size w w' := by
  unfold holdsB holdsI
  have HM := Lib.hid hm; clear hm
  cases h : mayM m
  · have HY := Lib.hid h; clear h
    simp only [Bool.false_eq_true, if_false, Bool.false_and]
    go_enter Try.func30, Try.ntmps30
    go_wp2_with fail
    (with_reducible refine (rmay_at (b := false) _ HM.out HY.out).mono ?_); rintro e w1 ⟨rfl, h1⟩
    go_wp2
    go_ret2
    exact ⟨rfl, h1⟩
  · have HY := Lib.hid h; clear h
    simp only [if_true, Bool.true_and]
    go_enter Try.func30, Try.ntmps30
    go_wp2_with fail
    (with_reducible refine (rmay_at (b := true) _ HM.out HY.out).mono ?_); rintro e w1 ⟨rfl, h1⟩
    have H1 := Lib.hid h1; clear h1
    go_wp2_with fail
    (with_reducible refine (rlife_any _ (HM.out.below H1.out) HY.out).mono ?_); rintro e w2 ⟨rfl, h2⟩
    go_wp2
    go_ret2
    exact ⟨rfl, H1.out.trans (h2.mono H1.out.size)⟩

end Go.Proofs.Ytmelamlngjflkaa

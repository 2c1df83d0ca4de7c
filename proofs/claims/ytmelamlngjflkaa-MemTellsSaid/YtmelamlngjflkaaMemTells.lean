/- MemTells: which memories may be, copies, whether two are the same, how deep a value points, and whether life holds, are the document's, at every two memories and value; they stay, and what is answered is new memory; the call answers true, and what is handed in reads as before. No condition. -/
import Derived.Test.YtmelamlngjflkaaRows
import Derived.WalkKit
import Derived.ProofKit
import Derived.OpenShut
import Derived.Below
import Derived.Outline
import Derived.LoopTactic
import Derived.Test.YtmelamlngjflkaaRep
import Derived.Test.YtmelamlngjflkaaU
import Derived.Test.YtmelamlngjflkaaP4
import Derived.Test.YtmelamlngjflkaaO
import Derived.Lib.Hide
import Derived.RegionTactic
import Derived.BigRegion
import Derived.Deep.RegionWith
namespace Go.Proofs.Ytmelamlngjflkaa.memTells
open Go.Joins Go.ChangeShapes Go.WideShapes Go.ChangeAt Go.RowKit Go.Deep

theorem great_at {m : List Blk} {v : Value} {b : Bool} (h : greatB m = b) (w : World) (hm : BsAt w v m) : Calls Try.prog 13 #[v] w fun e w' => e = .returned (.bool b) ∧ w = w' := by
  subst h
  exact great_any w hm
theorem great_small {m : List Blk} (h : greatB m = false) : m.length ≤ 4096 ∧ ∀ b ∈ m, b.cells.length ≤ 40 := by
  unfold greatB at h
  rw [Bool.or_eq_false_iff, List.any_eq_false] at h
  have h2 : m.length ≤ 40 := by simpa using h.2
  refine ⟨by omega, fun b hb => ?_⟩
  have := h.1 b (by rwa [List.take_of_length_le (by omega)])
  simpa using this
theorem depth_at {m : List Blk} {v : Value} {x i : Int} (p : Val) (w : World) (hm : BsAt w v m) (hr : depthV m p = x) (hi : depthI m p = i) :
    Calls Try.prog 18 #[v, .agg #[.int .u8 p.k, .int .i64 p.n, .int .i64 p.b, .int .i64 p.o]] w fun e w' => e = .returned (.tuple #[.int .i64 x, .int .i64 i]) ∧ Below w.heap.size w w' := by
  subst hr hi
  exact depth_any p w hm
theorem rdepth_at {m : List Blk} {v : Value} {x i : Int} (p : Val) (w : World) (hm : BsAt w v m) (hr : depthV m p = x) (hi : depthI m p = i) :
    Calls Try.prog 29 #[v, .agg #[.int .u8 p.k, .int .i64 p.n, .int .i64 p.b, .int .i64 p.o]] w fun e w' => e = .returned (.tuple #[.int .i64 x, .int .i64 i]) ∧ Below w.heap.size w w' := by
  subst hr hi
  exact rdepth_any p w hm
theorem holds_at {m : List Blk} {v : Value} {b : Bool} {i : Int} (w : World) (hm : BsAt w v m) (hb : holdsB m = b) (hi : holdsI m = i) : Calls Try.prog 12 #[v] w fun e w' => e = .returned (.tuple #[.bool b, .int .i64 i]) ∧ Below w.heap.size w w' := by
  subst hb hi
  exact holds_any w hm
theorem rholds_at {m : List Blk} {v : Value} {b : Bool} {i : Int} (w : World) (hm : BsAt w v m) (hb : holdsB m = b) (hi : holdsI m = i) : Calls Try.prog 30 #[v] w fun e w' => e = .returned (.tuple #[.bool b, .int .i64 i]) ∧ Below w.heap.size w w' := by
  subst hb hi
  exact rholds_any w hm
theorem check_at {m : List Blk} {v : Value} {i : Int} (w : World) (hm : BsAt w v m) (hi : checkI m = i) : Calls Try.prog 22 #[v] w fun e w' => e = .returned (.int .i64 i) ∧ Below w.heap.size w w' := by
  subst hi
  exact check_any w hm
theorem rcheck_at {m : List Blk} {v : Value} {i : Int} (w : World) (hm : BsAt w v m) (hi : checkI m = i) : Calls Try.prog 31 #[v] w fun e w' => e = .returned (.int .i64 i) ∧ Below w.heap.size w w' := by
  subst hi
  exact rcheck_any w hm
theorem same_at {l m : List Blk} {v u : Value} {b : Bool} (w : World) (hl : BsAt w v l) (hm : BsAt w u m) (h : decide (l = m) = b) : Calls Try.prog 32 #[v, u] w fun e w' => e = .returned (.bool b) ∧ Below w.heap.size w w' := by
  subst h
  exact same_any w hl hm
theorem rsame_at {l m : List Blk} {v u : Value} {b : Bool} (w : World) (hl : BsAt w v l) (hm : BsAt w u m) (h : decide (l = m) = b) : Calls Try.prog 26 #[v, u] w fun e w' => e = .returned (.bool b) ∧ Below w.heap.size w w' := by
  subst h
  exact rsame_any w hl hm

set_option maxRecDepth 100000 in
set_option maxHeartbeats 4000000 in
theorem core {m o : List Blk} {v u : Value} (p : Val) (w : World) (hm : BsAt w v m) (ho : BsAt w u o) : Calls Try.prog 6 #[v, u, .agg #[.int .u8 p.k, .int .i64 p.n, .int .i64 p.b, .int .i64 p.o]] w fun e w' => e = .returned (.bool true) ∧ Below w.heap.size w w' := by
  have HM := Lib.hid hm; clear hm
  have HO := Lib.hid ho; clear ho
  go_enter Try.func6, Try.ntmps6
  have HB : Hid (Below w.heap.size w w) := Lib.hid (Below.refl _ _)
  cases hg : greatB m
  · go_wp2_with fail
    (with_reducible refine (great_at hg _ (HM.out.below (by repeat (first | exact Below.refl _ _ | (with_reducible refine Below.drew ?_) | refine Below.setCell ?_ (by simp) _ | refine Below.alloc ?_ (by simp <;> omega) _)))).mono ?_); rintro e _ ⟨rfl, rfl⟩
    cases hg2 : greatB o
    · go_wp2_with fail
      (with_reducible refine (great_at hg2 _ (HO.out.below (by repeat (first | exact Below.refl _ _ | (with_reducible refine Below.drew ?_) | refine Below.setCell ?_ (by simp) _ | refine Below.alloc ?_ (by simp <;> omega) _)))).mono ?_); rintro e _ ⟨rfl, rfl⟩
      have HS := Lib.hid (great_small hg)
      obtain ⟨x1, hx1⟩ : ∃ x, depthV m p = x := ⟨_, rfl⟩
      obtain ⟨i1, hi1⟩ : ∃ x, depthI m p = x := ⟨_, rfl⟩
      obtain ⟨b2, hb2⟩ : ∃ x, holdsB m = x := ⟨_, rfl⟩
      obtain ⟨i2, hi2⟩ : ∃ x, holdsI m = x := ⟨_, rfl⟩
      obtain ⟨i3, hi3⟩ : ∃ x, checkI m = x := ⟨_, rfl⟩
      obtain ⟨b4, hb4⟩ : ∃ x, decide (m = o) = x := ⟨_, rfl⟩
      have X1 := Lib.hid hx1; have I1 := Lib.hid hi1; have B2 := Lib.hid hb2; have I2 := Lib.hid hi2; have I3 := Lib.hid hi3; have B4 := Lib.hid hb4
      clear hx1 hi1 hb2 hi2 hi3 hb4 hg hg2
      go_wp2_with fail
      (with_reducible refine (rtwin_any _ (HM.out.below (by repeat (first | exact Below.refl _ _ | (with_reducible refine Below.drew ?_) | refine Below.setCell ?_ (by simp) _ | refine Below.alloc ?_ (by simp <;> omega) _))) HS.out.1 HS.out.2).mono ?_); rintro e w1 ⟨v1, rfl, lay, b⟩
      have HW0 := Lib.hid lay.reads; clear lay
      have HW := Lib.hid (show Below w.heap.size w w1 from Below.trans (by repeat (first | exact Below.refl _ _ | (with_reducible refine Below.drew ?_) | refine Below.setCell ?_ (by simp) _ | refine Below.alloc ?_ (by simp <;> omega) _)) (b.mono (by simp <;> omega)))
      have p0 : w1.cell? ⟨w.heap.size, 0, none⟩ = some (.int .u8 p.k) := cell_below b (by first | (simp; done) | go_simp)
      have p1 : w1.cell? ⟨w.heap.size, 1, none⟩ = some (.int .i64 p.n) := cell_below b (by first | (simp; done) | go_simp)
      have p2 : w1.cell? ⟨w.heap.size, 2, none⟩ = some (.int .i64 p.b) := cell_below b (by first | (simp; done) | go_simp)
      have p3 : w1.cell? ⟨w.heap.size, 3, none⟩ = some (.int .i64 p.o) := cell_below b (by first | (simp; done) | go_simp)
      have ps : w.heap.size < w1.heap.size := World.block_lt_of_cell? w1 _ p0
      replace HM := Lib.hid (HM.out.below HW.out)
      replace HO := Lib.hid (HO.out.below HW.out)
      replace HB := Lib.hid (HB.out.trans (HW.out.mono HB.out.size))
      clear HW b
      have KM := Lib.hid HM.out; have KO := Lib.hid HO.out; have KW := Lib.hid HW0.out; have KB := Lib.hid HB.out; have SB : Hid (Below w1.heap.size w1 w1) := Below.refl _ _
      go_wp2_with fail
      (with_reducible refine (twin_any _ HW0.out HS.out.1 HS.out.2).mono ?_); rintro e w2 ⟨v2, rfl, lay, b⟩
      have LT := Lib.hid lay; clear lay
      have HW := Lib.hid (show Below w1.heap.size w1 w2 from Below.trans (by repeat (first | exact Below.refl _ _ | (with_reducible refine Below.drew ?_) | refine Below.setCell ?_ (by simp) _ | refine Below.alloc ?_ (by simp <;> omega) _)) (b.mono (by simp <;> omega)))
      replace p0 := cell_below HW.out p0
      replace p1 := cell_below HW.out p1
      replace p2 := cell_below HW.out p2
      replace p3 := cell_below HW.out p3
      replace ps := Nat.lt_of_lt_of_le ps HW.out.size
      replace HM := Lib.hid (HM.out.below HW.out)
      replace HO := Lib.hid (HO.out.below HW.out)
      replace HW0 := Lib.hid (HW0.out.below HW.out)
      replace HB := Lib.hid (HB.out.trans (HW.out.mono HB.out.size))
      replace SB := Lib.hid (SB.out.trans (HW.out.mono SB.out.size))
      clear HW b
      go_wp2_with fail
      (with_reducible refine (depth_at (x := x1) (i := i1) p _ (HW0.out.below (by repeat (first | exact Below.refl _ _ | (with_reducible refine Below.drew ?_) | refine Below.setCell ?_ (by simp) _ | refine Below.alloc ?_ (by simp <;> omega) _))) X1.out I1.out).mono ?_); rintro e w3 ⟨rfl, b⟩
      have HW := Lib.hid (show Below w2.heap.size w2 w3 from Below.trans (by repeat (first | exact Below.refl _ _ | (with_reducible refine Below.drew ?_) | refine Below.setCell ?_ (by simp) _ | refine Below.alloc ?_ (by simp <;> omega) _)) (b.mono (by simp <;> omega)))
      replace p0 := cell_below HW.out p0
      replace p1 := cell_below HW.out p1
      replace p2 := cell_below HW.out p2
      replace p3 := cell_below HW.out p3
      replace ps := Nat.lt_of_lt_of_le ps HW.out.size
      replace HM := Lib.hid (HM.out.below HW.out)
      replace HO := Lib.hid (HO.out.below HW.out)
      replace HW0 := Lib.hid (HW0.out.below HW.out)
      replace LT := Lib.hid (LT.out.below HW.out)
      replace HB := Lib.hid (HB.out.trans (HW.out.mono HB.out.size))
      replace SB := Lib.hid (SB.out.trans (HW.out.mono SB.out.size))
      clear HW b
      go_wp2_with fail
      (with_reducible refine (rdepth_at (x := x1) (i := i1) p _ (HM.out.below (by repeat (first | exact Below.refl _ _ | (with_reducible refine Below.drew ?_) | refine Below.setCell ?_ (by simp) _ | refine Below.alloc ?_ (by simp <;> omega) _))) X1.out I1.out).mono ?_); rintro e w4 ⟨rfl, b⟩
      have HW := Lib.hid (show Below w3.heap.size w3 w4 from Below.trans (by repeat (first | exact Below.refl _ _ | (with_reducible refine Below.drew ?_) | refine Below.setCell ?_ (by simp) _ | refine Below.alloc ?_ (by simp <;> omega) _)) (b.mono (by simp <;> omega)))
      replace p0 := cell_below HW.out p0
      replace p1 := cell_below HW.out p1
      replace p2 := cell_below HW.out p2
      replace p3 := cell_below HW.out p3
      replace ps := Nat.lt_of_lt_of_le ps HW.out.size
      replace HM := Lib.hid (HM.out.below HW.out)
      replace HO := Lib.hid (HO.out.below HW.out)
      replace HW0 := Lib.hid (HW0.out.below HW.out)
      replace LT := Lib.hid (LT.out.below HW.out)
      replace HB := Lib.hid (HB.out.trans (HW.out.mono HB.out.size))
      replace SB := Lib.hid (SB.out.trans (HW.out.mono SB.out.size))
      clear HW b
      go_wp2_with fail
      (with_reducible refine (holds_at (b := b2) (i := i2) _ (HW0.out.below (by repeat (first | exact Below.refl _ _ | (with_reducible refine Below.drew ?_) | refine Below.setCell ?_ (by simp) _ | refine Below.alloc ?_ (by simp <;> omega) _))) B2.out I2.out).mono ?_); rintro e w5 ⟨rfl, b⟩
      have HW := Lib.hid (show Below w4.heap.size w4 w5 from Below.trans (by repeat (first | exact Below.refl _ _ | (with_reducible refine Below.drew ?_) | refine Below.setCell ?_ (by simp) _ | refine Below.alloc ?_ (by simp <;> omega) _)) (b.mono (by simp <;> omega)))
      replace p0 := cell_below HW.out p0
      replace p1 := cell_below HW.out p1
      replace p2 := cell_below HW.out p2
      replace p3 := cell_below HW.out p3
      replace ps := Nat.lt_of_lt_of_le ps HW.out.size
      replace HM := Lib.hid (HM.out.below HW.out)
      replace HO := Lib.hid (HO.out.below HW.out)
      replace HW0 := Lib.hid (HW0.out.below HW.out)
      replace LT := Lib.hid (LT.out.below HW.out)
      replace HB := Lib.hid (HB.out.trans (HW.out.mono HB.out.size))
      replace SB := Lib.hid (SB.out.trans (HW.out.mono SB.out.size))
      clear HW b
      go_wp2_with fail
      (with_reducible refine (rholds_at (b := b2) (i := i2) _ (HM.out.below (by repeat (first | exact Below.refl _ _ | (with_reducible refine Below.drew ?_) | refine Below.setCell ?_ (by simp) _ | refine Below.alloc ?_ (by simp <;> omega) _))) B2.out I2.out).mono ?_); rintro e w6 ⟨rfl, b⟩
      have HW := Lib.hid (show Below w5.heap.size w5 w6 from Below.trans (by repeat (first | exact Below.refl _ _ | (with_reducible refine Below.drew ?_) | refine Below.setCell ?_ (by simp) _ | refine Below.alloc ?_ (by simp <;> omega) _)) (b.mono (by simp <;> omega)))
      replace p0 := cell_below HW.out p0
      replace p1 := cell_below HW.out p1
      replace p2 := cell_below HW.out p2
      replace p3 := cell_below HW.out p3
      replace ps := Nat.lt_of_lt_of_le ps HW.out.size
      replace HM := Lib.hid (HM.out.below HW.out)
      replace HO := Lib.hid (HO.out.below HW.out)
      replace HW0 := Lib.hid (HW0.out.below HW.out)
      replace LT := Lib.hid (LT.out.below HW.out)
      replace HB := Lib.hid (HB.out.trans (HW.out.mono HB.out.size))
      replace SB := Lib.hid (SB.out.trans (HW.out.mono SB.out.size))
      clear HW b
      go_wp2_with fail
      (with_reducible refine (check_at (i := i3) _ (HW0.out.below (by repeat (first | exact Below.refl _ _ | (with_reducible refine Below.drew ?_) | refine Below.setCell ?_ (by simp) _ | refine Below.alloc ?_ (by simp <;> omega) _))) I3.out).mono ?_); rintro e w7 ⟨rfl, b⟩
      have HW := Lib.hid (show Below w6.heap.size w6 w7 from Below.trans (by repeat (first | exact Below.refl _ _ | (with_reducible refine Below.drew ?_) | refine Below.setCell ?_ (by simp) _ | refine Below.alloc ?_ (by simp <;> omega) _)) (b.mono (by simp <;> omega)))
      replace p0 := cell_below HW.out p0
      replace p1 := cell_below HW.out p1
      replace p2 := cell_below HW.out p2
      replace p3 := cell_below HW.out p3
      replace ps := Nat.lt_of_lt_of_le ps HW.out.size
      replace HM := Lib.hid (HM.out.below HW.out)
      replace HO := Lib.hid (HO.out.below HW.out)
      replace HW0 := Lib.hid (HW0.out.below HW.out)
      replace LT := Lib.hid (LT.out.below HW.out)
      replace HB := Lib.hid (HB.out.trans (HW.out.mono HB.out.size))
      replace SB := Lib.hid (SB.out.trans (HW.out.mono SB.out.size))
      clear HW b
      go_wp2_with fail
      (with_reducible refine (rcheck_at (i := i3) _ (HM.out.below (by repeat (first | exact Below.refl _ _ | (with_reducible refine Below.drew ?_) | refine Below.setCell ?_ (by simp) _ | refine Below.alloc ?_ (by simp <;> omega) _))) I3.out).mono ?_); rintro e w8 ⟨rfl, b⟩
      have HW := Lib.hid (show Below w7.heap.size w7 w8 from Below.trans (by repeat (first | exact Below.refl _ _ | (with_reducible refine Below.drew ?_) | refine Below.setCell ?_ (by simp) _ | refine Below.alloc ?_ (by simp <;> omega) _)) (b.mono (by simp <;> omega)))
      replace p0 := cell_below HW.out p0
      replace p1 := cell_below HW.out p1
      replace p2 := cell_below HW.out p2
      replace p3 := cell_below HW.out p3
      replace ps := Nat.lt_of_lt_of_le ps HW.out.size
      replace HM := Lib.hid (HM.out.below HW.out)
      replace HO := Lib.hid (HO.out.below HW.out)
      replace HW0 := Lib.hid (HW0.out.below HW.out)
      replace LT := Lib.hid (LT.out.below HW.out)
      replace HB := Lib.hid (HB.out.trans (HW.out.mono HB.out.size))
      replace SB := Lib.hid (SB.out.trans (HW.out.mono SB.out.size))
      clear HW b
      go_wp2_with fail
      (with_reducible refine (same_at (b := b4) _ (HW0.out.below (by repeat (first | exact Below.refl _ _ | (with_reducible refine Below.drew ?_) | refine Below.setCell ?_ (by simp) _ | refine Below.alloc ?_ (by simp <;> omega) _))) (HO.out.below (by repeat (first | exact Below.refl _ _ | (with_reducible refine Below.drew ?_) | refine Below.setCell ?_ (by simp) _ | refine Below.alloc ?_ (by simp <;> omega) _))) B4.out).mono ?_); rintro e w9 ⟨rfl, b⟩
      have HW := Lib.hid (show Below w8.heap.size w8 w9 from Below.trans (by repeat (first | exact Below.refl _ _ | (with_reducible refine Below.drew ?_) | refine Below.setCell ?_ (by simp) _ | refine Below.alloc ?_ (by simp <;> omega) _)) (b.mono (by simp <;> omega)))
      replace p0 := cell_below HW.out p0
      replace p1 := cell_below HW.out p1
      replace p2 := cell_below HW.out p2
      replace p3 := cell_below HW.out p3
      replace ps := Nat.lt_of_lt_of_le ps HW.out.size
      replace HM := Lib.hid (HM.out.below HW.out)
      replace HO := Lib.hid (HO.out.below HW.out)
      replace HW0 := Lib.hid (HW0.out.below HW.out)
      replace LT := Lib.hid (LT.out.below HW.out)
      replace HB := Lib.hid (HB.out.trans (HW.out.mono HB.out.size))
      replace SB := Lib.hid (SB.out.trans (HW.out.mono SB.out.size))
      clear HW b
      go_wp2_with fail
      (with_reducible refine (rsame_at (b := b4) _ (HM.out.below (by repeat (first | exact Below.refl _ _ | (with_reducible refine Below.drew ?_) | refine Below.setCell ?_ (by simp) _ | refine Below.alloc ?_ (by simp <;> omega) _))) (HO.out.below (by repeat (first | exact Below.refl _ _ | (with_reducible refine Below.drew ?_) | refine Below.setCell ?_ (by simp) _ | refine Below.alloc ?_ (by simp <;> omega) _))) B4.out).mono ?_); rintro e w10 ⟨rfl, b⟩
      have HW := Lib.hid (show Below w9.heap.size w9 w10 from Below.trans (by repeat (first | exact Below.refl _ _ | (with_reducible refine Below.drew ?_) | refine Below.setCell ?_ (by simp) _ | refine Below.alloc ?_ (by simp <;> omega) _)) (b.mono (by simp <;> omega)))
      replace p0 := cell_below HW.out p0
      replace p1 := cell_below HW.out p1
      replace p2 := cell_below HW.out p2
      replace p3 := cell_below HW.out p3
      replace ps := Nat.lt_of_lt_of_le ps HW.out.size
      replace HM := Lib.hid (HM.out.below HW.out)
      replace HO := Lib.hid (HO.out.below HW.out)
      replace HW0 := Lib.hid (HW0.out.below HW.out)
      replace LT := Lib.hid (LT.out.below HW.out)
      replace HB := Lib.hid (HB.out.trans (HW.out.mono HB.out.size))
      replace SB := Lib.hid (SB.out.trans (HW.out.mono SB.out.size))
      clear HW b
      go_wp2_with fail
      (with_reducible refine (same_at (b := true) _ (HW0.out.below (by repeat (first | exact Below.refl _ _ | (with_reducible refine Below.drew ?_) | refine Below.setCell ?_ (by simp) _ | refine Below.alloc ?_ (by simp <;> omega) _))) (HM.out.below (by repeat (first | exact Below.refl _ _ | (with_reducible refine Below.drew ?_) | refine Below.setCell ?_ (by simp) _ | refine Below.alloc ?_ (by simp <;> omega) _))) (by simp)).mono ?_); rintro e w11 ⟨rfl, b⟩
      have HW := Lib.hid (show Below w10.heap.size w10 w11 from Below.trans (by repeat (first | exact Below.refl _ _ | (with_reducible refine Below.drew ?_) | refine Below.setCell ?_ (by simp) _ | refine Below.alloc ?_ (by simp <;> omega) _)) (b.mono (by simp <;> omega)))
      replace p0 := cell_below HW.out p0
      replace p1 := cell_below HW.out p1
      replace p2 := cell_below HW.out p2
      replace p3 := cell_below HW.out p3
      replace ps := Nat.lt_of_lt_of_le ps HW.out.size
      replace HM := Lib.hid (HM.out.below HW.out)
      replace HO := Lib.hid (HO.out.below HW.out)
      replace HW0 := Lib.hid (HW0.out.below HW.out)
      replace LT := Lib.hid (LT.out.below HW.out)
      replace HB := Lib.hid (HB.out.trans (HW.out.mono HB.out.size))
      replace SB := Lib.hid (SB.out.trans (HW.out.mono SB.out.size))
      clear HW b
      go_wp2_with fail
      (with_reducible refine (rsame_at (b := true) _ (LT.out.reads.below (by repeat (first | exact Below.refl _ _ | (with_reducible refine Below.drew ?_) | refine Below.setCell ?_ (by simp) _ | refine Below.alloc ?_ (by simp <;> omega) _))) (HM.out.below (by repeat (first | exact Below.refl _ _ | (with_reducible refine Below.drew ?_) | refine Below.setCell ?_ (by simp) _ | refine Below.alloc ?_ (by simp <;> omega) _))) (by simp)).mono ?_); rintro e w12 ⟨rfl, b⟩
      have HW := Lib.hid (show Below w11.heap.size w11 w12 from Below.trans (by repeat (first | exact Below.refl _ _ | (with_reducible refine Below.drew ?_) | refine Below.setCell ?_ (by simp) _ | refine Below.alloc ?_ (by simp <;> omega) _)) (b.mono (by simp <;> omega)))
      replace p0 := cell_below HW.out p0
      replace p1 := cell_below HW.out p1
      replace p2 := cell_below HW.out p2
      replace p3 := cell_below HW.out p3
      replace ps := Nat.lt_of_lt_of_le ps HW.out.size
      replace HM := Lib.hid (HM.out.below HW.out)
      replace HO := Lib.hid (HO.out.below HW.out)
      replace HW0 := Lib.hid (HW0.out.below HW.out)
      replace LT := Lib.hid (LT.out.below HW.out)
      replace HB := Lib.hid (HB.out.trans (HW.out.mono HB.out.size))
      replace SB := Lib.hid (SB.out.trans (HW.out.mono SB.out.size))
      clear HW b
      go_wp2_with fail
      (with_reducible refine (spoil_any _ (LT.out.below (by repeat (first | exact Below.refl _ _ | (with_reducible refine Below.drew ?_) | refine Below.setCell ?_ (by simp) _ | refine Below.alloc ?_ (by simp <;> omega) _))) HS.out.1 HS.out.2).mono ?_); rintro e ws ⟨rfl, hsp⟩
      have BS : Hid (Below w1.heap.size w1 ws) := SB.out.trans (Below.trans (by repeat (first | exact Below.refl _ _ | (with_reducible refine Below.drew ?_) | refine Below.setCell ?_ (by simp) _ | refine Below.alloc ?_ (by simp <;> omega) _)) hsp)
      clear hsp p0 p1 p2 p3 ps
      go_wp2_with fail
      (with_reducible refine (rsame_at (b := true) _ ((KW.out.below BS.out).below (by repeat (first | exact Below.refl _ _ | (with_reducible refine Below.drew ?_) | refine Below.setCell ?_ (by simp) _ | refine Below.alloc ?_ (by simp <;> omega) _))) ((KM.out.below BS.out).below (by repeat (first | exact Below.refl _ _ | (with_reducible refine Below.drew ?_) | refine Below.setCell ?_ (by simp) _ | refine Below.alloc ?_ (by simp <;> omega) _))) (by simp)).mono ?_); rintro e wz ⟨rfl, bz⟩
      have BZ : Hid (Below w.heap.size w wz) := (KB.out.trans (BS.out.mono KB.out.size)).trans (Below.trans (B := w.heap.size) (by repeat (first | exact Below.refl _ _ | (with_reducible refine Below.drew ?_) | refine Below.setCell ?_ (by simp) _ | refine Below.alloc ?_ (by simp <;> omega) _)) (bz.mono (by have := KB.out.size; have := BS.out.size; simp <;> omega)))
      clear bz
      go_wp2
      go_ret
      exact ⟨rfl, BZ.out⟩
    · go_wp2_with fail
      (with_reducible refine (great_at hg2 _ (HO.out.below (by repeat (first | exact Below.refl _ _ | (with_reducible refine Below.drew ?_) | refine Below.setCell ?_ (by simp) _ | refine Below.alloc ?_ (by simp <;> omega) _)))).mono ?_); rintro e _ ⟨rfl, rfl⟩
      go_wp2
      go_ret
      exact ⟨rfl, (by repeat (first | exact Below.refl _ _ | (with_reducible refine Below.drew ?_) | refine Below.setCell ?_ (by simp) _ | refine Below.alloc ?_ (by simp <;> omega) _))⟩
  · go_wp2_with fail
    (with_reducible refine (great_at hg _ (HM.out.below (by repeat (first | exact Below.refl _ _ | (with_reducible refine Below.drew ?_) | refine Below.setCell ?_ (by simp) _ | refine Below.alloc ?_ (by simp <;> omega) _)))).mono ?_); rintro e _ ⟨rfl, rfl⟩
    go_wp2
    go_ret
    exact ⟨rfl, (by repeat (first | exact Below.refl _ _ | (with_reducible refine Below.drew ?_) | refine Below.setCell ?_ (by simp) _ | refine Below.alloc ?_ (by simp <;> omega) _))⟩


/-! ### THE ROW's STEP -/
theorem own : ownKnob Try.prog.godebug = none := by kernel_rfl

theorem laidOut : laidOutB Try.prog = true := by kernel_rfl

set_option maxRecDepth 100000 in
theorem lifted (os : Os) (started : os.Started) (H : Type) (enc : TypeId × Value → H) :
    ReturnsInHanded {} Try.checked os 6 .any (Rows.memTellsSpec.pre6 enc Try.prog Try.f6 Rows.memTellsRow.domain false) (Rows.memTellsSpec.post enc Try.prog Try.f6 false true false false) := by
  refine returnsInHanded_of_change (C := Try.checked) own started (by kernel_rfl) Try.func6
    (ChangeSpec.witness6 (enc := enc) (C := Try.checked) false ⟨#[], #[.slice none 0 0, .slice none 0 0, .agg #[.int .u8 0, .int .i64 0, .int .i64 0, .int .i64 0]], []⟩ 8 (by kernel_rfl) (by kernel_rfl) (by kernel_rfl) (by kernel_rfl)) ?_
  intro W base args ds gs before hval0 hW hcnd _
  have hval : ∀ (j : Nat) t v, Try.f6.params[j]? = some t → args[j]? = some v → Value.okWide Try.prog W .any base t v := hval0
  have hW' := hW
  obtain ⟨p, q, hA0, hV, rfl, hfz, hnd⟩ := hW
  have hA : DataW.TrodAll enc Try.prog W 0 (fun _ => true) true Try.f6.params.toList args.toList ds p := hA0
  rw [Try.params6] at hA hval
  obtain ⟨v0, vs0, d0, ds0, p0, q0, hargs, rfl, rfl, h0, r0⟩ := trodAll_cons hA
  obtain ⟨v1, vs1, d1, ds1, p1, q1, rfl, rfl, rfl, h1, r1⟩ := trodAll_cons r0
  obtain ⟨v2, vs2, d2, ds2, p2, q2, rfl, rfl, rfl, h2, r2⟩ := trodAll_cons r1
  obtain ⟨rfl, rfl, rfl⟩ := trodAll_nil r2
  obtain rfl : args = #[v0, v1, v2] := by cases args; simp_all
  obtain ⟨rfl, rfl⟩ := trodVars_none hV
  obtain ⟨m0, hm0⟩ := open_blks (hval 0 22 v0 rfl rfl) h0
  obtain ⟨m1, hm1⟩ := open_blks (hval 1 22 v1 rfl rfl) h1
  obtain ⟨k2, n2, b2, o2, rfl, kw2, nw2, bw2, ow2⟩ := open_val (hval 2 24 v2 rfl rfl) h2
  refine (core ⟨k2, n2, b2, o2⟩ W hm0 hm1).mono fun e W' ⟨he, hg⟩ => ?_
  subst he
  exact ⟨_, rfl, law_post laidOut (by
    intro t ht
    simp only [Try.params6, List.mem_cons, List.not_mem_nil, or_false] at ht
    rcases ht with rfl | rfl | rfl <;> exact ⟨by kernel_rfl, of_decide_eq_true (by kernel_rfl)⟩) rfl rfl Try.underlying4 rfl hW' hg⟩

theorem over : Rows.memTellsRow.holds Try.pinned (OpenSpec.ofChange Rows.memTellsSpec) :=
  OpenClaim.holds_of_wide 6 Try.f6 rfl rfl rfl rfl rfl rfl rfl ⟨rfl, rfl, rfl, rfl, rfl⟩ rfl rfl rfl rfl rfl (by kernel_rfl) Try.func6 (by kernel_rfl)
    (of_decide_eq_true (by kernel_rfl)) (by unfold Func.isWrapper; first | (rw [if_pos (by decide +kernel)]; kernel_rfl) | (rw [if_neg (by decide +kernel)]; exact ⟨rfl, rfl⟩))
    (fun os started H enc _ => lifted os started H enc)

theorem proved : Rows.MemTellsSaid :=
  over
#print axioms proved

end Go.Proofs.Ytmelamlngjflkaa.memTells

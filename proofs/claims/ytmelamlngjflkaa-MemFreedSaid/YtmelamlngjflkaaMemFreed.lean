/- MemFreed: what is freed is neither loaded, stored nor freed again, and no other block is turned, at every memory and two pointers; the call answers true, and what is handed in reads as before. No condition. -/
import Derived.Test.YtmelamlngjflkaaRows
import Derived.WalkKit
import Derived.ProofKit
import Derived.OpenShut
import Derived.Below
import Derived.Outline
import Derived.LoopTactic
import Derived.Test.YtmelamlngjflkaaRep
import Derived.Test.YtmelamlngjflkaaU
import Derived.Test.YtmelamlngjflkaaQ
import Derived.Test.YtmelamlngjflkaaO
import Derived.Test.YtmelamlngjflkaaT2
import Derived.Lib.Hide
import Derived.RegionTactic
import Derived.BigRegion
import Derived.Deep.RegionWith
namespace Go.Proofs.Ytmelamlngjflkaa.memFreed
open Go.Joins Go.ChangeShapes Go.WideShapes Go.ChangeAt Go.RowKit Go.Deep

theorem great_at {m : List Blk} {v : Value} {b : Bool} (h : greatB m = b) (w : World) (hm : BsAt w v m) : Calls Try.prog 13 #[v] w fun e w' => e = .returned (.bool b) ∧ w = w' := by
  subst h
  exact great_any w hm

set_option maxHeartbeats 1000000 in
theorem core {m : List Blk} {v : Value} (p q : Val) (w : World) (hm : BsAt w v m) : Calls Try.prog 9 #[v, .agg #[.int .u8 p.k, .int .i64 p.n, .int .i64 p.b, .int .i64 p.o], .agg #[.int .u8 q.k, .int .i64 q.n, .int .i64 q.b, .int .i64 q.o]] w fun e w' => e = .returned (.bool true) ∧ Below w.heap.size w w' := by
  have HM := Lib.hid hm; clear hm
  go_enter Try.func9, Try.ntmps9
  have HB : Hid (Below w.heap.size w w) := Lib.hid (Below.refl _ _)
  go_wp2_with fail
  (with_reducible refine (alive_any _).mono ?_); rintro e w1 ⟨rfl, b⟩
  have HW := Lib.hid (show Below w.heap.size w w1 from Below.trans (by repeat (first | exact Below.refl _ _ | (with_reducible refine Below.drew ?_) | refine Below.setCell ?_ (by simp) _ | refine Below.alloc ?_ (by simp <;> omega) _)) (b.mono (by simp <;> omega)))
  have p0 : w1.cell? ⟨w.heap.size, 0, none⟩ = some (.int .u8 p.k) := cell_below b (by first | (simp; done) | go_simp)
  have p1 : w1.cell? ⟨w.heap.size, 1, none⟩ = some (.int .i64 p.n) := cell_below b (by first | (simp; done) | go_simp)
  have p2 : w1.cell? ⟨w.heap.size, 2, none⟩ = some (.int .i64 p.b) := cell_below b (by first | (simp; done) | go_simp)
  have p3 : w1.cell? ⟨w.heap.size, 3, none⟩ = some (.int .i64 p.o) := cell_below b (by first | (simp; done) | go_simp)
  have ps : w.heap.size < w1.heap.size := World.block_lt_of_cell? w1 _ p0
  have q0 : w1.cell? ⟨w.heap.size + 1, 0, none⟩ = some (.int .u8 q.k) := cell_below b (by first | (simp; done) | go_simp)
  have q1 : w1.cell? ⟨w.heap.size + 1, 1, none⟩ = some (.int .i64 q.n) := cell_below b (by first | (simp; done) | go_simp)
  have q2 : w1.cell? ⟨w.heap.size + 1, 2, none⟩ = some (.int .i64 q.b) := cell_below b (by first | (simp; done) | go_simp)
  have q3 : w1.cell? ⟨w.heap.size + 1, 3, none⟩ = some (.int .i64 q.o) := cell_below b (by first | (simp; done) | go_simp)
  have qs : w.heap.size + 1 < w1.heap.size := World.block_lt_of_cell? w1 _ q0
  replace HM := Lib.hid (HM.out.below HW.out)
  replace HB := Lib.hid (HB.out.trans (HW.out.mono HB.out.size))
  clear HW b
  cases hg : greatB m
  · go_wp2_with fail
    (with_reducible refine (great_at hg _ (HM.out.below (by repeat (first | exact Below.refl _ _ | (with_reducible refine Below.drew ?_) | refine Below.setCell ?_ (by simp) _ | refine Below.alloc ?_ (by simp <;> omega) _)))).mono ?_); rintro e _ ⟨rfl, rfl⟩
    by_cases he : freeI m p = 0
    · have HE := Lib.hid he; have hr : freeR m p = freeM m p := by rw [freeR, he, if_pos rfl]; rfl
      go_wp2_with fail
      (with_reducible refine (free_at (r := freeM m p) (i := 0) p _ (HM.out.below (by repeat (first | exact Below.refl _ _ | (with_reducible refine Below.drew ?_) | refine Below.setCell ?_ (by simp) _ | refine Below.alloc ?_ (by simp <;> omega) _))) hr he).mono ?_); rintro e w2 ⟨v1, rfl, lay, b⟩
      have HX := Lib.hid lay.reads; clear lay
      have HW := Lib.hid (show Below w1.heap.size w1 w2 from Below.trans (by repeat (first | exact Below.refl _ _ | (with_reducible refine Below.drew ?_) | refine Below.setCell ?_ (by simp) _ | refine Below.alloc ?_ (by simp <;> omega) _)) (b.mono (by simp <;> omega)))
      replace p0 := cell_below HW.out p0
      replace p1 := cell_below HW.out p1
      replace p2 := cell_below HW.out p2
      replace p3 := cell_below HW.out p3
      replace ps := Nat.lt_of_lt_of_le ps HW.out.size
      replace q0 := cell_below HW.out q0
      replace q1 := cell_below HW.out q1
      replace q2 := cell_below HW.out q2
      replace q3 := cell_below HW.out q3
      replace qs := Nat.lt_of_lt_of_le qs HW.out.size
      replace HM := Lib.hid (HM.out.below HW.out)
      replace HB := Lib.hid (HB.out.trans (HW.out.mono HB.out.size))
      clear HW b
      go_wp2_with fail
      (with_reducible refine (load_at (x := loadV (freeM m p) p) (i := 142) p _ (HX.out.below (by repeat (first | exact Below.refl _ _ | (with_reducible refine Below.drew ?_) | refine Below.setCell ?_ (by simp) _ | refine Below.alloc ?_ (by simp <;> omega) _))) rfl (freed_load HE.out)).mono ?_); rintro e w3 ⟨rfl, b⟩
      have HW := Lib.hid (show Below w2.heap.size w2 w3 from Below.trans (by repeat (first | exact Below.refl _ _ | (with_reducible refine Below.drew ?_) | refine Below.setCell ?_ (by simp) _ | refine Below.alloc ?_ (by simp <;> omega) _)) (b.mono (by simp <;> omega)))
      replace p0 := cell_below HW.out p0
      replace p1 := cell_below HW.out p1
      replace p2 := cell_below HW.out p2
      replace p3 := cell_below HW.out p3
      replace ps := Nat.lt_of_lt_of_le ps HW.out.size
      replace q0 := cell_below HW.out q0
      replace q1 := cell_below HW.out q1
      replace q2 := cell_below HW.out q2
      replace q3 := cell_below HW.out q3
      replace qs := Nat.lt_of_lt_of_le qs HW.out.size
      replace HM := Lib.hid (HM.out.below HW.out)
      replace HX := Lib.hid (HX.out.below HW.out)
      replace HB := Lib.hid (HB.out.trans (HW.out.mono HB.out.size))
      clear HW b
      go_wp2_with fail
      (with_reducible refine (free_at (r := []) (i := 142) p _ (HX.out.below (by repeat (first | exact Below.refl _ _ | (with_reducible refine Below.drew ?_) | refine Below.setCell ?_ (by simp) _ | refine Below.alloc ?_ (by simp <;> omega) _))) (by rw [freeR, freed_free HE.out, if_neg (by decide)]) (freed_free HE.out)).mono ?_); rintro e w4 ⟨v2, rfl, lay, b⟩
      have HW := Lib.hid (show Below w3.heap.size w3 w4 from Below.trans (by repeat (first | exact Below.refl _ _ | (with_reducible refine Below.drew ?_) | refine Below.setCell ?_ (by simp) _ | refine Below.alloc ?_ (by simp <;> omega) _)) (b.mono (by simp <;> omega)))
      have y0 : w4.cell? ⟨w3.heap.size, 0, none⟩ = some (.int .u8 (loadV (freeM m p) p).k) := cell_below b (by first | (simp; done) | go_simp)
      have y1 : w4.cell? ⟨w3.heap.size, 1, none⟩ = some (.int .i64 (loadV (freeM m p) p).n) := cell_below b (by first | (simp; done) | go_simp)
      have y2 : w4.cell? ⟨w3.heap.size, 2, none⟩ = some (.int .i64 (loadV (freeM m p) p).b) := cell_below b (by first | (simp; done) | go_simp)
      have y3 : w4.cell? ⟨w3.heap.size, 3, none⟩ = some (.int .i64 (loadV (freeM m p) p).o) := cell_below b (by first | (simp; done) | go_simp)
      have ys : w3.heap.size < w4.heap.size := World.block_lt_of_cell? w4 _ y0
      replace p0 := cell_below HW.out p0
      replace p1 := cell_below HW.out p1
      replace p2 := cell_below HW.out p2
      replace p3 := cell_below HW.out p3
      replace ps := Nat.lt_of_lt_of_le ps HW.out.size
      replace q0 := cell_below HW.out q0
      replace q1 := cell_below HW.out q1
      replace q2 := cell_below HW.out q2
      replace q3 := cell_below HW.out q3
      replace qs := Nat.lt_of_lt_of_le qs HW.out.size
      replace HM := Lib.hid (HM.out.below HW.out)
      replace HX := Lib.hid (HX.out.below HW.out)
      replace HB := Lib.hid (HB.out.trans (HW.out.mono HB.out.size))
      clear HW b
      clear lay
      go_wp2_with fail
      (with_reducible refine (load_at (x := loadV m q) (i := loadI m q) q _ (HM.out.below (by repeat (first | exact Below.refl _ _ | (with_reducible refine Below.drew ?_) | refine Below.setCell ?_ (by simp) _ | refine Below.alloc ?_ (by simp <;> omega) _))) rfl rfl).mono ?_); rintro e w5 ⟨rfl, b⟩
      have HW := Lib.hid (show Below w4.heap.size w4 w5 from Below.trans (by repeat (first | exact Below.refl _ _ | (with_reducible refine Below.drew ?_) | refine Below.setCell ?_ (by simp) _ | refine Below.alloc ?_ (by simp <;> omega) _)) (b.mono (by simp <;> omega)))
      replace p0 := cell_below HW.out p0
      replace p1 := cell_below HW.out p1
      replace p2 := cell_below HW.out p2
      replace p3 := cell_below HW.out p3
      replace ps := Nat.lt_of_lt_of_le ps HW.out.size
      replace q0 := cell_below HW.out q0
      replace q1 := cell_below HW.out q1
      replace q2 := cell_below HW.out q2
      replace q3 := cell_below HW.out q3
      replace qs := Nat.lt_of_lt_of_le qs HW.out.size
      replace y0 := cell_below HW.out y0
      replace y1 := cell_below HW.out y1
      replace y2 := cell_below HW.out y2
      replace y3 := cell_below HW.out y3
      replace ys := Nat.lt_of_lt_of_le ys HW.out.size
      replace HM := Lib.hid (HM.out.below HW.out)
      replace HX := Lib.hid (HX.out.below HW.out)
      replace HB := Lib.hid (HB.out.trans (HW.out.mono HB.out.size))
      clear HW b
      by_cases hpq : ¬ q.k = 2 ∨ ¬ q.b = p.b
      · obtain ⟨g1, g2⟩ := freed_off HE.out hpq
        go_wp2_with fail
        (with_reducible refine (load_at (x := loadV m q) (i := loadI m q) q _ (HX.out.below (by repeat (first | exact Below.refl _ _ | (with_reducible refine Below.drew ?_) | refine Below.setCell ?_ (by simp) _ | refine Below.alloc ?_ (by simp <;> omega) _))) g2 g1).mono ?_); rintro e w6 ⟨rfl, b⟩
        have HW := Lib.hid (show Below w5.heap.size w5 w6 from Below.trans (by repeat (first | exact Below.refl _ _ | (with_reducible refine Below.drew ?_) | refine Below.setCell ?_ (by simp) _ | refine Below.alloc ?_ (by simp <;> omega) _)) (b.mono (by simp <;> omega)))
        have z0 : w6.cell? ⟨w5.heap.size, 0, none⟩ = some (.int .u8 (loadV m q).k) := cell_below b (by first | (simp; done) | go_simp)
        have z1 : w6.cell? ⟨w5.heap.size, 1, none⟩ = some (.int .i64 (loadV m q).n) := cell_below b (by first | (simp; done) | go_simp)
        have z2 : w6.cell? ⟨w5.heap.size, 2, none⟩ = some (.int .i64 (loadV m q).b) := cell_below b (by first | (simp; done) | go_simp)
        have z3 : w6.cell? ⟨w5.heap.size, 3, none⟩ = some (.int .i64 (loadV m q).o) := cell_below b (by first | (simp; done) | go_simp)
        have zs : w5.heap.size < w6.heap.size := World.block_lt_of_cell? w6 _ z0
        replace p0 := cell_below HW.out p0
        replace p1 := cell_below HW.out p1
        replace p2 := cell_below HW.out p2
        replace p3 := cell_below HW.out p3
        replace ps := Nat.lt_of_lt_of_le ps HW.out.size
        replace q0 := cell_below HW.out q0
        replace q1 := cell_below HW.out q1
        replace q2 := cell_below HW.out q2
        replace q3 := cell_below HW.out q3
        replace qs := Nat.lt_of_lt_of_le qs HW.out.size
        replace y0 := cell_below HW.out y0
        replace y1 := cell_below HW.out y1
        replace y2 := cell_below HW.out y2
        replace y3 := cell_below HW.out y3
        replace ys := Nat.lt_of_lt_of_le ys HW.out.size
        replace HM := Lib.hid (HM.out.below HW.out)
        replace HX := Lib.hid (HX.out.below HW.out)
        replace HB := Lib.hid (HB.out.trans (HW.out.mono HB.out.size))
        clear HW b
        have B9 := Lib.hid (HB.out.alloc HB.out.size (.cells #[.int .u8 (loadV m q).k, .int .i64 (loadV m q).n, .int .i64 (loadV m q).b, .int .i64 (loadV m q).o] 24))
        rcases hpq with hpq | hpq
        · have d1 : (q.k == 2) = false := by simpa using hpq
          have d2 : (q.k != 2) = true := by simpa using hpq
          go_wp2
          go_ret
          exact ⟨rfl, B9.out⟩
        · have d1 : (q.b == p.b) = false := by simpa using hpq
          have d2 : (q.b != p.b) = true := by simpa using hpq
          go_wp2
          all_goals
            go_ret
            exact ⟨rfl, B9.out⟩
      · obtain ⟨g3, g4⟩ : q.k = 2 ∧ q.b = p.b := by
          constructor
          · exact Classical.byContradiction fun h => hpq (.inl h)
          · exact Classical.byContradiction fun h => hpq (.inr h)
        have d2 : (q.k != 2) = false := by simp [g3]
        have d3 : (q.b != p.b) = false := by simp [g4]
        have G3 := Lib.hid g3; clear g3
        have G4 := Lib.hid g4; clear g4
        go_wp2_with fail
        (with_reducible refine (load_at (x := loadV (freeM m p) q) (i := loadI (freeM m p) q) q _ (HX.out.below (by repeat (first | exact Below.refl _ _ | (with_reducible refine Below.drew ?_) | refine Below.setCell ?_ (by simp) _ | refine Below.alloc ?_ (by simp <;> omega) _))) rfl rfl).mono ?_); rintro e w6 ⟨rfl, b⟩
        have HW := Lib.hid (show Below w5.heap.size w5 w6 from Below.trans (by repeat (first | exact Below.refl _ _ | (with_reducible refine Below.drew ?_) | refine Below.setCell ?_ (by simp) _ | refine Below.alloc ?_ (by simp <;> omega) _)) (b.mono (by simp <;> omega)))
        have z0 : w6.cell? ⟨w5.heap.size, 0, none⟩ = some (.int .u8 (loadV m q).k) := cell_below b (by first | (simp; done) | go_simp)
        have z1 : w6.cell? ⟨w5.heap.size, 1, none⟩ = some (.int .i64 (loadV m q).n) := cell_below b (by first | (simp; done) | go_simp)
        have z2 : w6.cell? ⟨w5.heap.size, 2, none⟩ = some (.int .i64 (loadV m q).b) := cell_below b (by first | (simp; done) | go_simp)
        have z3 : w6.cell? ⟨w5.heap.size, 3, none⟩ = some (.int .i64 (loadV m q).o) := cell_below b (by first | (simp; done) | go_simp)
        have zs : w5.heap.size < w6.heap.size := World.block_lt_of_cell? w6 _ z0
        replace p0 := cell_below HW.out p0
        replace p1 := cell_below HW.out p1
        replace p2 := cell_below HW.out p2
        replace p3 := cell_below HW.out p3
        replace ps := Nat.lt_of_lt_of_le ps HW.out.size
        replace q0 := cell_below HW.out q0
        replace q1 := cell_below HW.out q1
        replace q2 := cell_below HW.out q2
        replace q3 := cell_below HW.out q3
        replace qs := Nat.lt_of_lt_of_le qs HW.out.size
        replace y0 := cell_below HW.out y0
        replace y1 := cell_below HW.out y1
        replace y2 := cell_below HW.out y2
        replace y3 := cell_below HW.out y3
        replace ys := Nat.lt_of_lt_of_le ys HW.out.size
        replace HM := Lib.hid (HM.out.below HW.out)
        replace HX := Lib.hid (HX.out.below HW.out)
        replace HB := Lib.hid (HB.out.trans (HW.out.mono HB.out.size))
        clear HW b
        clear hpq
        by_cases h0 : loadI m q = 0
        · obtain ⟨g5, g6⟩ := freed_in HE.out G3.out G4.out h0
          rw [h0, g5]
          go_wp2_with fail
          (with_reducible refine (store_at (r := []) (i := 142) q (loadV m q) _ (HX.out.below (by repeat (first | exact Below.refl _ _ | (with_reducible refine Below.drew ?_) | refine Below.setCell ?_ (by simp) _ | refine Below.alloc ?_ (by simp <;> omega) _))) (by rw [storeR, g6, if_neg (by decide)]) g6).mono ?_); rintro e w7 ⟨v3, rfl, lay, b⟩
          have HW := Lib.hid (show Below w6.heap.size w6 w7 from Below.trans (by repeat (first | exact Below.refl _ _ | (with_reducible refine Below.drew ?_) | refine Below.setCell ?_ (by simp) _ | refine Below.alloc ?_ (by simp <;> omega) _)) (b.mono (by simp <;> omega)))
          have u0 : w7.cell? ⟨w6.heap.size, 0, none⟩ = some (.int .u8 (loadV (freeM m p) q).k) := cell_below b (by first | (simp; done) | go_simp)
          have u1 : w7.cell? ⟨w6.heap.size, 1, none⟩ = some (.int .i64 (loadV (freeM m p) q).n) := cell_below b (by first | (simp; done) | go_simp)
          have u2 : w7.cell? ⟨w6.heap.size, 2, none⟩ = some (.int .i64 (loadV (freeM m p) q).b) := cell_below b (by first | (simp; done) | go_simp)
          have u3 : w7.cell? ⟨w6.heap.size, 3, none⟩ = some (.int .i64 (loadV (freeM m p) q).o) := cell_below b (by first | (simp; done) | go_simp)
          have us : w6.heap.size < w7.heap.size := World.block_lt_of_cell? w7 _ u0
          replace p0 := cell_below HW.out p0
          replace p1 := cell_below HW.out p1
          replace p2 := cell_below HW.out p2
          replace p3 := cell_below HW.out p3
          replace ps := Nat.lt_of_lt_of_le ps HW.out.size
          replace q0 := cell_below HW.out q0
          replace q1 := cell_below HW.out q1
          replace q2 := cell_below HW.out q2
          replace q3 := cell_below HW.out q3
          replace qs := Nat.lt_of_lt_of_le qs HW.out.size
          replace y0 := cell_below HW.out y0
          replace y1 := cell_below HW.out y1
          replace y2 := cell_below HW.out y2
          replace y3 := cell_below HW.out y3
          replace ys := Nat.lt_of_lt_of_le ys HW.out.size
          replace z0 := cell_below HW.out z0
          replace z1 := cell_below HW.out z1
          replace z2 := cell_below HW.out z2
          replace z3 := cell_below HW.out z3
          replace zs := Nat.lt_of_lt_of_le zs HW.out.size
          replace HM := Lib.hid (HM.out.below HW.out)
          replace HX := Lib.hid (HX.out.below HW.out)
          replace HB := Lib.hid (HB.out.trans (HW.out.mono HB.out.size))
          clear HW b
          go_wp2
          go_ret
          exact ⟨rfl, HB.out⟩
        · generalize loadI m q = i1 at h0
          have d4 : (i1 != 0) = true := by simpa using h0
          generalize hj : storeI (freeM m p) q (loadV m q) = j
          go_wp2_with fail
          (with_reducible refine (store_at (r := storeR (freeM m p) q (loadV m q)) (i := j) q (loadV m q) _ (HX.out.below (by repeat (first | exact Below.refl _ _ | (with_reducible refine Below.drew ?_) | refine Below.setCell ?_ (by simp) _ | refine Below.alloc ?_ (by simp <;> omega) _))) rfl hj).mono ?_); rintro e w7 ⟨v3, rfl, lay, b⟩
          have HW := Lib.hid (show Below w6.heap.size w6 w7 from Below.trans (by repeat (first | exact Below.refl _ _ | (with_reducible refine Below.drew ?_) | refine Below.setCell ?_ (by simp) _ | refine Below.alloc ?_ (by simp <;> omega) _)) (b.mono (by simp <;> omega)))
          have u0 : w7.cell? ⟨w6.heap.size, 0, none⟩ = some (.int .u8 (loadV (freeM m p) q).k) := cell_below b (by first | (simp; done) | go_simp)
          have u1 : w7.cell? ⟨w6.heap.size, 1, none⟩ = some (.int .i64 (loadV (freeM m p) q).n) := cell_below b (by first | (simp; done) | go_simp)
          have u2 : w7.cell? ⟨w6.heap.size, 2, none⟩ = some (.int .i64 (loadV (freeM m p) q).b) := cell_below b (by first | (simp; done) | go_simp)
          have u3 : w7.cell? ⟨w6.heap.size, 3, none⟩ = some (.int .i64 (loadV (freeM m p) q).o) := cell_below b (by first | (simp; done) | go_simp)
          have us : w6.heap.size < w7.heap.size := World.block_lt_of_cell? w7 _ u0
          replace p0 := cell_below HW.out p0
          replace p1 := cell_below HW.out p1
          replace p2 := cell_below HW.out p2
          replace p3 := cell_below HW.out p3
          replace ps := Nat.lt_of_lt_of_le ps HW.out.size
          replace q0 := cell_below HW.out q0
          replace q1 := cell_below HW.out q1
          replace q2 := cell_below HW.out q2
          replace q3 := cell_below HW.out q3
          replace qs := Nat.lt_of_lt_of_le qs HW.out.size
          replace y0 := cell_below HW.out y0
          replace y1 := cell_below HW.out y1
          replace y2 := cell_below HW.out y2
          replace y3 := cell_below HW.out y3
          replace ys := Nat.lt_of_lt_of_le ys HW.out.size
          replace z0 := cell_below HW.out z0
          replace z1 := cell_below HW.out z1
          replace z2 := cell_below HW.out z2
          replace z3 := cell_below HW.out z3
          replace zs := Nat.lt_of_lt_of_le zs HW.out.size
          replace HM := Lib.hid (HM.out.below HW.out)
          replace HX := Lib.hid (HX.out.below HW.out)
          replace HB := Lib.hid (HB.out.trans (HW.out.mono HB.out.size))
          clear HW b
          go_wp2
          go_ret
          exact ⟨rfl, HB.out⟩
    · generalize hi : freeI m p = i at he
      have e2 : (i != 0) = true := by simpa using he
      have hr : freeR m p = [] := by rw [freeR, hi, if_neg he]
      go_wp2_with fail
      (with_reducible refine (free_at (r := []) (i := i) p _ (HM.out.below (by repeat (first | exact Below.refl _ _ | (with_reducible refine Below.drew ?_) | refine Below.setCell ?_ (by simp) _ | refine Below.alloc ?_ (by simp <;> omega) _))) hr hi).mono ?_); rintro e w2 ⟨v1, rfl, lay, b⟩
      have HW := Lib.hid (show Below w1.heap.size w1 w2 from Below.trans (by repeat (first | exact Below.refl _ _ | (with_reducible refine Below.drew ?_) | refine Below.setCell ?_ (by simp) _ | refine Below.alloc ?_ (by simp <;> omega) _)) (b.mono (by simp <;> omega)))
      replace p0 := cell_below HW.out p0
      replace p1 := cell_below HW.out p1
      replace p2 := cell_below HW.out p2
      replace p3 := cell_below HW.out p3
      replace ps := Nat.lt_of_lt_of_le ps HW.out.size
      replace q0 := cell_below HW.out q0
      replace q1 := cell_below HW.out q1
      replace q2 := cell_below HW.out q2
      replace q3 := cell_below HW.out q3
      replace qs := Nat.lt_of_lt_of_le qs HW.out.size
      replace HM := Lib.hid (HM.out.below HW.out)
      replace HB := Lib.hid (HB.out.trans (HW.out.mono HB.out.size))
      clear HW b
      obtain ⟨A, c, rfl, _⟩ := lay.len; clear lay
      go_wp2
      go_ret
      exact ⟨rfl, HB.out⟩
  · go_wp2_with fail
    (with_reducible refine (great_at hg _ (HM.out.below (by repeat (first | exact Below.refl _ _ | (with_reducible refine Below.drew ?_) | refine Below.setCell ?_ (by simp) _ | refine Below.alloc ?_ (by simp <;> omega) _)))).mono ?_); rintro e _ ⟨rfl, rfl⟩
    go_wp2
    go_ret
    exact ⟨rfl, HB.out⟩


/-! ### THE ROW's STEP -/
theorem own : ownKnob Try.prog.godebug = none := by kernel_rfl

theorem laidOut : laidOutB Try.prog = true := by kernel_rfl

set_option maxRecDepth 100000 in
theorem lifted (os : Os) (started : os.Started) (H : Type) (enc : TypeId × Value → H) :
    ReturnsInHanded {} Try.checked os 9 .any (Rows.memFreedSpec.pre6 enc Try.prog Try.f9 Rows.memFreedRow.domain false) (Rows.memFreedSpec.post enc Try.prog Try.f9 false true false false) := by
  refine returnsInHanded_of_change (C := Try.checked) own started (by kernel_rfl) Try.func9
    (ChangeSpec.witness6 (enc := enc) (C := Try.checked) false ⟨#[], #[.slice none 0 0, .agg #[.int .u8 0, .int .i64 0, .int .i64 0, .int .i64 0], .agg #[.int .u8 0, .int .i64 0, .int .i64 0, .int .i64 0]], []⟩ 8 (by kernel_rfl) (by kernel_rfl) (by kernel_rfl) (by kernel_rfl)) ?_
  intro W base args ds gs before hval0 hW hcnd _
  have hval : ∀ (j : Nat) t v, Try.f9.params[j]? = some t → args[j]? = some v → Value.okWide Try.prog W .any base t v := hval0
  have hW' := hW
  obtain ⟨p, q, hA0, hV, rfl, hfz, hnd⟩ := hW
  have hA : DataW.TrodAll enc Try.prog W 0 (fun _ => true) true Try.f9.params.toList args.toList ds p := hA0
  rw [Try.params9] at hA hval
  obtain ⟨v0, vs0, d0, ds0, p0, q0, hargs, rfl, rfl, h0, r0⟩ := trodAll_cons hA
  obtain ⟨v1, vs1, d1, ds1, p1, q1, rfl, rfl, rfl, h1, r1⟩ := trodAll_cons r0
  obtain ⟨v2, vs2, d2, ds2, p2, q2, rfl, rfl, rfl, h2, r2⟩ := trodAll_cons r1
  obtain ⟨rfl, rfl, rfl⟩ := trodAll_nil r2
  obtain rfl : args = #[v0, v1, v2] := by cases args; simp_all
  obtain ⟨rfl, rfl⟩ := trodVars_none hV
  obtain ⟨m0, hm0⟩ := open_blks (hval 0 22 v0 rfl rfl) h0
  obtain ⟨k1, n1, b1, o1, rfl, kw1, nw1, bw1, ow1⟩ := open_val (hval 1 24 v1 rfl rfl) h1
  obtain ⟨k2, n2, b2, o2, rfl, kw2, nw2, bw2, ow2⟩ := open_val (hval 2 24 v2 rfl rfl) h2
  refine (core ⟨k1, n1, b1, o1⟩ ⟨k2, n2, b2, o2⟩ W hm0).mono fun e W' ⟨he, hg⟩ => ?_
  subst he
  exact ⟨_, rfl, law_post laidOut (by
    intro t ht
    simp only [Try.params9, List.mem_cons, List.not_mem_nil, or_false] at ht
    rcases ht with rfl | rfl | rfl <;> exact ⟨by kernel_rfl, of_decide_eq_true (by kernel_rfl)⟩) rfl rfl Try.underlying4 rfl hW' hg⟩

theorem over : Rows.memFreedRow.holds Try.pinned (OpenSpec.ofChange Rows.memFreedSpec) :=
  OpenClaim.holds_of_wide 9 Try.f9 rfl rfl rfl rfl rfl rfl rfl ⟨rfl, rfl, rfl, rfl, rfl⟩ rfl rfl rfl rfl rfl (by kernel_rfl) Try.func9 (by kernel_rfl)
    (of_decide_eq_true (by kernel_rfl)) (by unfold Func.isWrapper; first | (rw [if_pos (by decide +kernel)]; kernel_rfl) | (rw [if_neg (by decide +kernel)]; exact ⟨rfl, rfl⟩))
    (fun os started H enc _ => lifted os started H enc)

theorem proved : Rows.MemFreedSaid :=
  over
#print axioms proved

end Go.Proofs.Ytmelamlngjflkaa.memFreed

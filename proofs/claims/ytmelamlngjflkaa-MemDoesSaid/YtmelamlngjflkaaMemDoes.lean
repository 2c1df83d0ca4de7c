/- MemDoes: what is loaded, stored, freed, and how pointers move, or the errors, are the document's, at every memory, pointer, value and number; it stays, and what is answered is new memory; the call answers true, and what is handed in reads as before. No condition. -/
import Derived.Test.YtmelamlngjflkaaRows
import Derived.WalkKit
import Derived.ProofKit
import Derived.OpenShut
import Derived.Below
import Derived.Outline
import Derived.LoopTactic
import Derived.Test.YtmelamlngjflkaaRep
import Derived.Test.YtmelamlngjflkaaU
import Derived.Test.YtmelamlngjflkaaP6
import Derived.Test.YtmelamlngjflkaaP7
import Derived.Test.YtmelamlngjflkaaO
import Derived.Test.YtmelamlngjflkaaT
import Derived.Lib.Hide
import Derived.RegionTactic
import Derived.BigRegion
import Derived.Deep.RegionWith
namespace Go.Proofs.Ytmelamlngjflkaa.memDoes
open Go.Joins Go.ChangeShapes Go.WideShapes Go.ChangeAt Go.RowKit Go.Deep

theorem great_at {m : List Blk} {v : Value} {b : Bool} (h : greatB m = b) (w : World) (hm : BsAt w v m) : Calls Try.prog 13 #[v] w fun e w' => e = .returned (.bool b) ∧ w = w' := by
  subst h
  exact great_any w hm
theorem great_small {m : List Blk} (h : greatB m = false) : m.length ≤ 4096 ∧ ∀ b ∈ m, b.cells.length ≤ 40 := by
  unfold greatB at h
  rw [Bool.or_eq_false_iff, List.any_eq_false] at h
  have h2 : m.length ≤ 40 := by simpa using h.2
  refine ⟨by omega, fun b hb => ?_⟩
  have := h.1 b (by rwa [List.take_of_length_le (by omega)])
  simpa using this
theorem rsame_at {l m : List Blk} {v u : Value} {b : Bool} (w : World) (hl : BsAt w v l) (hm : BsAt w u m) (h : decide (l = m) = b) : Calls Try.prog 26 #[v, u] w fun e w' => e = .returned (.bool b) ∧ Below w.heap.size w w' := by
  subst h
  exact rsame_any w hl hm

theorem rload_at {m : List Blk} {v : Value} {x : Val} {i : Int} (p : Val) (w : World) (hm : BsAt w v m) (hr : loadV m p = x) (hi : loadI m p = i) : Calls Try.prog 33 #[v, .agg #[.int .u8 p.k, .int .i64 p.n, .int .i64 p.b, .int .i64 p.o]] w fun e w' => e = .returned (.tuple #[.agg #[.int .u8 x.k, .int .i64 x.n, .int .i64 x.b, .int .i64 x.o], .int .i64 i]) ∧ Below w.heap.size w w' := by
  subst hr hi
  exact rload_any p w hm
theorem rmove_at {m : List Blk} {v : Value} {x : Val} {i : Int} (p : Val) (y : Int) (w : World) (hm : BsAt w v m) (hy : -9223372036854775808 ≤ y ∧ y ≤ 9223372036854775807) (hr : moveV m p y = x) (hi : moveI m p y = i) : Calls Try.prog 36 #[v, .agg #[.int .u8 p.k, .int .i64 p.n, .int .i64 p.b, .int .i64 p.o], .int .i64 y] w fun e w' => e = .returned (.tuple #[.agg #[.int .u8 x.k, .int .i64 x.n, .int .i64 x.b, .int .i64 x.o], .int .i64 i]) ∧ Below w.heap.size w w' := by
  subst hr hi
  exact rmove_any p y hy.1 hy.2 w hm
theorem rstore_at {m : List Blk} {v : Value} {r : List Blk} {i : Int} (p x : Val) (w : World) (hm : BsAt w v m) (hr : storeR m p x = r) (hi : storeI m p x = i) : Calls Try.prog 34 #[v, .agg #[.int .u8 p.k, .int .i64 p.n, .int .i64 p.b, .int .i64 p.o], .agg #[.int .u8 x.k, .int .i64 x.n, .int .i64 x.b, .int .i64 x.o]] w (MadeP r i w) := by
  subst hr hi
  exact rstore_any p x w hm
theorem rfree_at {m : List Blk} {v : Value} {r : List Blk} {i : Int} (p : Val) (w : World) (hm : BsAt w v m) (hr : freeR m p = r) (hi : freeI m p = i) : Calls Try.prog 35 #[v, .agg #[.int .u8 p.k, .int .i64 p.n, .int .i64 p.b, .int .i64 p.o]] w (MadeP r i w) := by
  subst hr hi
  exact rfree_any p w hm
abbrev Small (m : List Blk) : Prop := m.length ≤ 4096 ∧ ∀ b ∈ m, b.cells.length ≤ 40
theorem small_nil : Small [] := ⟨by simp, by simp⟩
theorem small_shape {m m' : List Blk} (h : Small m) (s : Shape m m') : Small m' := by
  refine ⟨by rw [s.1]; exact h.1, fun b hb => ?_⟩
  obtain ⟨i, hi⟩ := List.mem_iff_getElem?.1 hb
  have hil := (List.getElem?_eq_some_iff.1 hi).1
  rw [s.1] at hil
  obtain ⟨b', h1, h2, _⟩ := s.2 i _ (List.getElem?_eq_getElem hil)
  rw [hi] at h1
  injection h1 with h1
  subst h1
  rw [h2]
  exact h.2 _ (List.getElem_mem hil)
theorem small_store {m : List Blk} (h : Small m) (p x : Val) : Small (storeR m p x) := by
  unfold storeR
  split
  · rename_i h0
    exact small_shape h (stored_shape h0)
  · exact small_nil
theorem small_free {m : List Blk} (h : Small m) (p : Val) : Small (freeR m p) := by
  unfold freeR
  split
  · rename_i h0
    exact small_shape h (freed_shape h0)
  · exact small_nil

set_option maxRecDepth 100000 in
set_option maxHeartbeats 4000000 in
theorem core {m : List Blk} {v : Value} (p x : Val) (y : Int) (w : World) (hm : BsAt w v m) (hy : -9223372036854775808 ≤ y ∧ y ≤ 9223372036854775807) : Calls Try.prog 7 #[v, .agg #[.int .u8 p.k, .int .i64 p.n, .int .i64 p.b, .int .i64 p.o], .agg #[.int .u8 x.k, .int .i64 x.n, .int .i64 x.b, .int .i64 x.o], .int .i64 y] w fun e w' => e = .returned (.bool true) ∧ Below w.heap.size w w' := by
  have HM := Lib.hid hm; clear hm
  have HY := Lib.hid hy; clear hy
  go_enter Try.func7, Try.ntmps7
  have HB : Hid (Below w.heap.size w w) := Lib.hid (Below.refl _ _)
  cases hg : greatB m
  · go_wp2_with fail
    (with_reducible refine (great_at hg _ (HM.out.below (by repeat (first | exact Below.refl _ _ | (with_reducible refine Below.drew ?_) | refine Below.setCell ?_ (by simp) _ | refine Below.alloc ?_ (by simp <;> omega) _)))).mono ?_); rintro e _ ⟨rfl, rfl⟩
    have HS : Hid (Small m) := great_small hg
    obtain ⟨a1, ha1⟩ : ∃ x, loadV m p = x := ⟨_, rfl⟩
    obtain ⟨i1, hi1⟩ : ∃ x, loadI m p = x := ⟨_, rfl⟩
    obtain ⟨r2, hr2⟩ : ∃ r, storeR m p x = r := ⟨_, rfl⟩
    obtain ⟨i2, hi2⟩ : ∃ i, storeI m p x = i := ⟨_, rfl⟩
    obtain ⟨r3, hr3⟩ : ∃ r, freeR m p = r := ⟨_, rfl⟩
    obtain ⟨i3, hi3⟩ : ∃ i, freeI m p = i := ⟨_, rfl⟩
    obtain ⟨a4, ha4⟩ : ∃ x, moveV m p y = x := ⟨_, rfl⟩
    obtain ⟨i4, hi4⟩ : ∃ x, moveI m p y = x := ⟨_, rfl⟩
    have S2 : Hid (Small r2) := hr2 ▸ small_store HS.out p x
    have S3 : Hid (Small r3) := hr3 ▸ small_free HS.out p
    have A1 := Lib.hid ha1; have I1 := Lib.hid hi1; have R2 := Lib.hid hr2; have I2 := Lib.hid hi2; have R3 := Lib.hid hr3; have I3 := Lib.hid hi3; have A4 := Lib.hid ha4; have I4 := Lib.hid hi4
    clear ha1 hi1 hr2 hi2 hr3 hi3 ha4 hi4 hg
    go_wp2_with fail
    (with_reducible refine (rtwin_any _ (HM.out.below (by repeat (first | exact Below.refl _ _ | (with_reducible refine Below.drew ?_) | refine Below.setCell ?_ (by simp) _ | refine Below.alloc ?_ (by simp <;> omega) _))) HS.out.1 HS.out.2).mono ?_); rintro e w1 ⟨v1, rfl, lay, b⟩
    have HW0 := Lib.hid lay.reads; clear lay
    have HW := Lib.hid (show Below w.heap.size w w1 from Below.trans (by repeat (first | exact Below.refl _ _ | (with_reducible refine Below.drew ?_) | refine Below.setCell ?_ (by simp) _ | refine Below.alloc ?_ (by simp <;> omega) _)) (b.mono (by simp <;> omega)))
    have p0 : w1.cell? ⟨w.heap.size, 0, none⟩ = some (.int .u8 p.k) := cell_below b (by first | (simp; done) | go_simp)
    have p1 : w1.cell? ⟨w.heap.size, 1, none⟩ = some (.int .i64 p.n) := cell_below b (by first | (simp; done) | go_simp)
    have p2 : w1.cell? ⟨w.heap.size, 2, none⟩ = some (.int .i64 p.b) := cell_below b (by first | (simp; done) | go_simp)
    have p3 : w1.cell? ⟨w.heap.size, 3, none⟩ = some (.int .i64 p.o) := cell_below b (by first | (simp; done) | go_simp)
    have ps : w.heap.size < w1.heap.size := World.block_lt_of_cell? w1 _ p0
    have x0 : w1.cell? ⟨w.heap.size + 1, 0, none⟩ = some (.int .u8 x.k) := cell_below b (by first | (simp; done) | go_simp)
    have x1 : w1.cell? ⟨w.heap.size + 1, 1, none⟩ = some (.int .i64 x.n) := cell_below b (by first | (simp; done) | go_simp)
    have x2 : w1.cell? ⟨w.heap.size + 1, 2, none⟩ = some (.int .i64 x.b) := cell_below b (by first | (simp; done) | go_simp)
    have x3 : w1.cell? ⟨w.heap.size + 1, 3, none⟩ = some (.int .i64 x.o) := cell_below b (by first | (simp; done) | go_simp)
    have xs : w.heap.size + 1 < w1.heap.size := World.block_lt_of_cell? w1 _ x0
    replace HM := Lib.hid (HM.out.below HW.out)
    replace HB := Lib.hid (HB.out.trans (HW.out.mono HB.out.size))
    clear HW b
    have KM := Lib.hid HM.out; have KW := Lib.hid HW0.out; have KB := Lib.hid HB.out; have SB : Hid (Below w1.heap.size w1 w1) := Below.refl _ _
    go_wp2_with fail
    (with_reducible refine (load_at (x := a1) (i := i1) p _ (HW0.out.below (by repeat (first | exact Below.refl _ _ | (with_reducible refine Below.drew ?_) | refine Below.setCell ?_ (by simp) _ | refine Below.alloc ?_ (by simp <;> omega) _))) A1.out I1.out).mono ?_); rintro e w2 ⟨rfl, b⟩
    have HW := Lib.hid (show Below w1.heap.size w1 w2 from Below.trans (by repeat (first | exact Below.refl _ _ | (with_reducible refine Below.drew ?_) | refine Below.setCell ?_ (by simp) _ | refine Below.alloc ?_ (by simp <;> omega) _)) (b.mono (by simp <;> omega)))
    replace p0 := cell_below HW.out p0
    replace p1 := cell_below HW.out p1
    replace p2 := cell_below HW.out p2
    replace p3 := cell_below HW.out p3
    replace ps := Nat.lt_of_lt_of_le ps HW.out.size
    replace x0 := cell_below HW.out x0
    replace x1 := cell_below HW.out x1
    replace x2 := cell_below HW.out x2
    replace x3 := cell_below HW.out x3
    replace xs := Nat.lt_of_lt_of_le xs HW.out.size
    replace HM := Lib.hid (HM.out.below HW.out)
    replace HW0 := Lib.hid (HW0.out.below HW.out)
    replace HB := Lib.hid (HB.out.trans (HW.out.mono HB.out.size))
    replace SB := Lib.hid (SB.out.trans (HW.out.mono SB.out.size))
    clear HW b
    go_wp2_with fail
    (with_reducible refine (rload_at (x := a1) (i := i1) p _ (HM.out.below (by repeat (first | exact Below.refl _ _ | (with_reducible refine Below.drew ?_) | refine Below.setCell ?_ (by simp) _ | refine Below.alloc ?_ (by simp <;> omega) _))) A1.out I1.out).mono ?_); rintro e w3 ⟨rfl, b⟩
    have HW := Lib.hid (show Below w2.heap.size w2 w3 from Below.trans (by repeat (first | exact Below.refl _ _ | (with_reducible refine Below.drew ?_) | refine Below.setCell ?_ (by simp) _ | refine Below.alloc ?_ (by simp <;> omega) _)) (b.mono (by simp <;> omega)))
    have ua0 : w3.cell? ⟨w2.heap.size, 0, none⟩ = some (.int .u8 a1.k) := cell_below b (by first | (simp; done) | go_simp)
    have ua1 : w3.cell? ⟨w2.heap.size, 1, none⟩ = some (.int .i64 a1.n) := cell_below b (by first | (simp; done) | go_simp)
    have ua2 : w3.cell? ⟨w2.heap.size, 2, none⟩ = some (.int .i64 a1.b) := cell_below b (by first | (simp; done) | go_simp)
    have ua3 : w3.cell? ⟨w2.heap.size, 3, none⟩ = some (.int .i64 a1.o) := cell_below b (by first | (simp; done) | go_simp)
    have uas : w2.heap.size < w3.heap.size := World.block_lt_of_cell? w3 _ ua0
    replace p0 := cell_below HW.out p0
    replace p1 := cell_below HW.out p1
    replace p2 := cell_below HW.out p2
    replace p3 := cell_below HW.out p3
    replace ps := Nat.lt_of_lt_of_le ps HW.out.size
    replace x0 := cell_below HW.out x0
    replace x1 := cell_below HW.out x1
    replace x2 := cell_below HW.out x2
    replace x3 := cell_below HW.out x3
    replace xs := Nat.lt_of_lt_of_le xs HW.out.size
    replace HM := Lib.hid (HM.out.below HW.out)
    replace HW0 := Lib.hid (HW0.out.below HW.out)
    replace HB := Lib.hid (HB.out.trans (HW.out.mono HB.out.size))
    replace SB := Lib.hid (SB.out.trans (HW.out.mono SB.out.size))
    have ZP := Lib.hid SB.out.size
    clear HW b
    go_wp2_with fail
    (with_reducible refine (store_at (r := r2) (i := i2) p x _ (HW0.out.below (by repeat (first | exact Below.refl _ _ | (with_reducible refine Below.drew ?_) | refine Below.setCell ?_ (by simp) _ | refine Below.alloc ?_ (by simp <;> omega) _))) R2.out I2.out).mono ?_); rintro e w4 ⟨v2, rfl, lay, b⟩
    have LC := Lib.hid (lay.lower (base' := w3.heap.size) (by simp)); clear lay
    have HW := Lib.hid (show Below w3.heap.size w3 w4 from Below.trans (by repeat (first | exact Below.refl _ _ | (with_reducible refine Below.drew ?_) | refine Below.setCell ?_ (by simp) _ | refine Below.alloc ?_ (by simp <;> omega) _)) (b.mono (by simp <;> omega)))
    have ub0 : w4.cell? ⟨w3.heap.size, 0, none⟩ = some (.int .u8 a1.k) := cell_below b (by first | (simp; done) | go_simp)
    have ub1 : w4.cell? ⟨w3.heap.size, 1, none⟩ = some (.int .i64 a1.n) := cell_below b (by first | (simp; done) | go_simp)
    have ub2 : w4.cell? ⟨w3.heap.size, 2, none⟩ = some (.int .i64 a1.b) := cell_below b (by first | (simp; done) | go_simp)
    have ub3 : w4.cell? ⟨w3.heap.size, 3, none⟩ = some (.int .i64 a1.o) := cell_below b (by first | (simp; done) | go_simp)
    have ubs : w3.heap.size < w4.heap.size := World.block_lt_of_cell? w4 _ ub0
    replace p0 := cell_below HW.out p0
    replace p1 := cell_below HW.out p1
    replace p2 := cell_below HW.out p2
    replace p3 := cell_below HW.out p3
    replace ps := Nat.lt_of_lt_of_le ps HW.out.size
    replace x0 := cell_below HW.out x0
    replace x1 := cell_below HW.out x1
    replace x2 := cell_below HW.out x2
    replace x3 := cell_below HW.out x3
    replace xs := Nat.lt_of_lt_of_le xs HW.out.size
    replace ua0 := cell_below HW.out ua0
    replace ua1 := cell_below HW.out ua1
    replace ua2 := cell_below HW.out ua2
    replace ua3 := cell_below HW.out ua3
    replace uas := Nat.lt_of_lt_of_le uas HW.out.size
    replace HM := Lib.hid (HM.out.below HW.out)
    replace HW0 := Lib.hid (HW0.out.below HW.out)
    replace HB := Lib.hid (HB.out.trans (HW.out.mono HB.out.size))
    replace SB := Lib.hid (SB.out.trans (HW.out.mono SB.out.size))
    have WPC : w1.heap.size ≤ w3.heap.size ∧ w3.heap.size ≤ w4.heap.size := ⟨ZP.out, HW.out.size⟩
    clear HW b
    have SC : Hid (Below w4.heap.size w4 w4) := Below.refl _ _
    have ZC : Hid (w1.heap.size ≤ w3.heap.size ∧ w3.heap.size ≤ w4.heap.size) := WPC
    go_wp2_with fail
    (with_reducible refine (rstore_at (r := r2) (i := i2) p x _ (HM.out.below (by repeat (first | exact Below.refl _ _ | (with_reducible refine Below.drew ?_) | refine Below.setCell ?_ (by simp) _ | refine Below.alloc ?_ (by simp <;> omega) _))) R2.out I2.out).mono ?_); rintro e w5 ⟨v3, rfl, lay, b⟩
    have HD := Lib.hid lay.reads; clear lay
    have HW := Lib.hid (show Below w4.heap.size w4 w5 from Below.trans (by repeat (first | exact Below.refl _ _ | (with_reducible refine Below.drew ?_) | refine Below.setCell ?_ (by simp) _ | refine Below.alloc ?_ (by simp <;> omega) _)) (b.mono (by simp <;> omega)))
    replace p0 := cell_below HW.out p0
    replace p1 := cell_below HW.out p1
    replace p2 := cell_below HW.out p2
    replace p3 := cell_below HW.out p3
    replace ps := Nat.lt_of_lt_of_le ps HW.out.size
    replace x0 := cell_below HW.out x0
    replace x1 := cell_below HW.out x1
    replace x2 := cell_below HW.out x2
    replace x3 := cell_below HW.out x3
    replace xs := Nat.lt_of_lt_of_le xs HW.out.size
    replace ua0 := cell_below HW.out ua0
    replace ua1 := cell_below HW.out ua1
    replace ua2 := cell_below HW.out ua2
    replace ua3 := cell_below HW.out ua3
    replace uas := Nat.lt_of_lt_of_le uas HW.out.size
    replace ub0 := cell_below HW.out ub0
    replace ub1 := cell_below HW.out ub1
    replace ub2 := cell_below HW.out ub2
    replace ub3 := cell_below HW.out ub3
    replace ubs := Nat.lt_of_lt_of_le ubs HW.out.size
    replace HM := Lib.hid (HM.out.below HW.out)
    replace HW0 := Lib.hid (HW0.out.below HW.out)
    replace HB := Lib.hid (HB.out.trans (HW.out.mono HB.out.size))
    replace SB := Lib.hid (SB.out.trans (HW.out.mono SB.out.size))
    replace SC := Lib.hid (SC.out.trans (HW.out.mono SC.out.size))
    clear HW b
    go_wp2_with fail
    (with_reducible refine (free_at (r := r3) (i := i3) p _ (HW0.out.below (by repeat (first | exact Below.refl _ _ | (with_reducible refine Below.drew ?_) | refine Below.setCell ?_ (by simp) _ | refine Below.alloc ?_ (by simp <;> omega) _))) R3.out I3.out).mono ?_); rintro e w6 ⟨v4, rfl, lay, b⟩
    have LG := Lib.hid (lay.lower (base' := w4.heap.size) (by have := SC.out.size; simp <;> omega)); clear lay
    have HW := Lib.hid (show Below w5.heap.size w5 w6 from Below.trans (by repeat (first | exact Below.refl _ _ | (with_reducible refine Below.drew ?_) | refine Below.setCell ?_ (by simp) _ | refine Below.alloc ?_ (by simp <;> omega) _)) (b.mono (by simp <;> omega)))
    replace p0 := cell_below HW.out p0
    replace p1 := cell_below HW.out p1
    replace p2 := cell_below HW.out p2
    replace p3 := cell_below HW.out p3
    replace ps := Nat.lt_of_lt_of_le ps HW.out.size
    replace x0 := cell_below HW.out x0
    replace x1 := cell_below HW.out x1
    replace x2 := cell_below HW.out x2
    replace x3 := cell_below HW.out x3
    replace xs := Nat.lt_of_lt_of_le xs HW.out.size
    replace ua0 := cell_below HW.out ua0
    replace ua1 := cell_below HW.out ua1
    replace ua2 := cell_below HW.out ua2
    replace ua3 := cell_below HW.out ua3
    replace uas := Nat.lt_of_lt_of_le uas HW.out.size
    replace ub0 := cell_below HW.out ub0
    replace ub1 := cell_below HW.out ub1
    replace ub2 := cell_below HW.out ub2
    replace ub3 := cell_below HW.out ub3
    replace ubs := Nat.lt_of_lt_of_le ubs HW.out.size
    replace HM := Lib.hid (HM.out.below HW.out)
    replace HW0 := Lib.hid (HW0.out.below HW.out)
    replace HD := Lib.hid (HD.out.below HW.out)
    replace HB := Lib.hid (HB.out.trans (HW.out.mono HB.out.size))
    replace SB := Lib.hid (SB.out.trans (HW.out.mono SB.out.size))
    replace SC := Lib.hid (SC.out.trans (HW.out.mono SC.out.size))
    clear HW b
    go_wp2_with fail
    (with_reducible refine (rfree_at (r := r3) (i := i3) p _ (HM.out.below (by repeat (first | exact Below.refl _ _ | (with_reducible refine Below.drew ?_) | refine Below.setCell ?_ (by simp) _ | refine Below.alloc ?_ (by simp <;> omega) _))) R3.out I3.out).mono ?_); rintro e w7 ⟨v5, rfl, lay, b⟩
    have HH := Lib.hid lay.reads; clear lay
    have HW := Lib.hid (show Below w6.heap.size w6 w7 from Below.trans (by repeat (first | exact Below.refl _ _ | (with_reducible refine Below.drew ?_) | refine Below.setCell ?_ (by simp) _ | refine Below.alloc ?_ (by simp <;> omega) _)) (b.mono (by simp <;> omega)))
    replace p0 := cell_below HW.out p0
    replace p1 := cell_below HW.out p1
    replace p2 := cell_below HW.out p2
    replace p3 := cell_below HW.out p3
    replace ps := Nat.lt_of_lt_of_le ps HW.out.size
    replace x0 := cell_below HW.out x0
    replace x1 := cell_below HW.out x1
    replace x2 := cell_below HW.out x2
    replace x3 := cell_below HW.out x3
    replace xs := Nat.lt_of_lt_of_le xs HW.out.size
    replace ua0 := cell_below HW.out ua0
    replace ua1 := cell_below HW.out ua1
    replace ua2 := cell_below HW.out ua2
    replace ua3 := cell_below HW.out ua3
    replace uas := Nat.lt_of_lt_of_le uas HW.out.size
    replace ub0 := cell_below HW.out ub0
    replace ub1 := cell_below HW.out ub1
    replace ub2 := cell_below HW.out ub2
    replace ub3 := cell_below HW.out ub3
    replace ubs := Nat.lt_of_lt_of_le ubs HW.out.size
    replace HM := Lib.hid (HM.out.below HW.out)
    replace HW0 := Lib.hid (HW0.out.below HW.out)
    replace HD := Lib.hid (HD.out.below HW.out)
    replace LG := Lib.hid (LG.out.below HW.out)
    replace HB := Lib.hid (HB.out.trans (HW.out.mono HB.out.size))
    replace SB := Lib.hid (SB.out.trans (HW.out.mono SB.out.size))
    replace SC := Lib.hid (SC.out.trans (HW.out.mono SC.out.size))
    clear HW b
    go_wp2_with fail
    (with_reducible refine (move_at (x := a4) (i := i4) p y _ (HW0.out.below (by repeat (first | exact Below.refl _ _ | (with_reducible refine Below.drew ?_) | refine Below.setCell ?_ (by simp) _ | refine Below.alloc ?_ (by simp <;> omega) _))) HY.out A4.out I4.out).mono ?_); rintro e w8 ⟨rfl, b⟩
    have HW := Lib.hid (show Below w7.heap.size w7 w8 from Below.trans (by repeat (first | exact Below.refl _ _ | (with_reducible refine Below.drew ?_) | refine Below.setCell ?_ (by simp) _ | refine Below.alloc ?_ (by simp <;> omega) _)) (b.mono (by simp <;> omega)))
    replace p0 := cell_below HW.out p0
    replace p1 := cell_below HW.out p1
    replace p2 := cell_below HW.out p2
    replace p3 := cell_below HW.out p3
    replace ps := Nat.lt_of_lt_of_le ps HW.out.size
    replace x0 := cell_below HW.out x0
    replace x1 := cell_below HW.out x1
    replace x2 := cell_below HW.out x2
    replace x3 := cell_below HW.out x3
    replace xs := Nat.lt_of_lt_of_le xs HW.out.size
    replace ua0 := cell_below HW.out ua0
    replace ua1 := cell_below HW.out ua1
    replace ua2 := cell_below HW.out ua2
    replace ua3 := cell_below HW.out ua3
    replace uas := Nat.lt_of_lt_of_le uas HW.out.size
    replace ub0 := cell_below HW.out ub0
    replace ub1 := cell_below HW.out ub1
    replace ub2 := cell_below HW.out ub2
    replace ub3 := cell_below HW.out ub3
    replace ubs := Nat.lt_of_lt_of_le ubs HW.out.size
    replace HM := Lib.hid (HM.out.below HW.out)
    replace HW0 := Lib.hid (HW0.out.below HW.out)
    replace HD := Lib.hid (HD.out.below HW.out)
    replace LG := Lib.hid (LG.out.below HW.out)
    replace HH := Lib.hid (HH.out.below HW.out)
    replace HB := Lib.hid (HB.out.trans (HW.out.mono HB.out.size))
    replace SB := Lib.hid (SB.out.trans (HW.out.mono SB.out.size))
    replace SC := Lib.hid (SC.out.trans (HW.out.mono SC.out.size))
    clear HW b
    go_wp2_with fail
    (with_reducible refine (rmove_at (x := a4) (i := i4) p y _ (HM.out.below (by repeat (first | exact Below.refl _ _ | (with_reducible refine Below.drew ?_) | refine Below.setCell ?_ (by simp) _ | refine Below.alloc ?_ (by simp <;> omega) _))) HY.out A4.out I4.out).mono ?_); rintro e w9 ⟨rfl, b⟩
    have HW := Lib.hid (show Below w8.heap.size w8 w9 from Below.trans (by repeat (first | exact Below.refl _ _ | (with_reducible refine Below.drew ?_) | refine Below.setCell ?_ (by simp) _ | refine Below.alloc ?_ (by simp <;> omega) _)) (b.mono (by simp <;> omega)))
    have ui0 : w9.cell? ⟨w8.heap.size, 0, none⟩ = some (.int .u8 a4.k) := cell_below b (by first | (simp; done) | go_simp)
    have ui1 : w9.cell? ⟨w8.heap.size, 1, none⟩ = some (.int .i64 a4.n) := cell_below b (by first | (simp; done) | go_simp)
    have ui2 : w9.cell? ⟨w8.heap.size, 2, none⟩ = some (.int .i64 a4.b) := cell_below b (by first | (simp; done) | go_simp)
    have ui3 : w9.cell? ⟨w8.heap.size, 3, none⟩ = some (.int .i64 a4.o) := cell_below b (by first | (simp; done) | go_simp)
    have uis : w8.heap.size < w9.heap.size := World.block_lt_of_cell? w9 _ ui0
    replace p0 := cell_below HW.out p0
    replace p1 := cell_below HW.out p1
    replace p2 := cell_below HW.out p2
    replace p3 := cell_below HW.out p3
    replace ps := Nat.lt_of_lt_of_le ps HW.out.size
    replace x0 := cell_below HW.out x0
    replace x1 := cell_below HW.out x1
    replace x2 := cell_below HW.out x2
    replace x3 := cell_below HW.out x3
    replace xs := Nat.lt_of_lt_of_le xs HW.out.size
    replace ua0 := cell_below HW.out ua0
    replace ua1 := cell_below HW.out ua1
    replace ua2 := cell_below HW.out ua2
    replace ua3 := cell_below HW.out ua3
    replace uas := Nat.lt_of_lt_of_le uas HW.out.size
    replace ub0 := cell_below HW.out ub0
    replace ub1 := cell_below HW.out ub1
    replace ub2 := cell_below HW.out ub2
    replace ub3 := cell_below HW.out ub3
    replace ubs := Nat.lt_of_lt_of_le ubs HW.out.size
    replace HM := Lib.hid (HM.out.below HW.out)
    replace HW0 := Lib.hid (HW0.out.below HW.out)
    replace HD := Lib.hid (HD.out.below HW.out)
    replace LG := Lib.hid (LG.out.below HW.out)
    replace HH := Lib.hid (HH.out.below HW.out)
    replace HB := Lib.hid (HB.out.trans (HW.out.mono HB.out.size))
    replace SB := Lib.hid (SB.out.trans (HW.out.mono SB.out.size))
    replace SC := Lib.hid (SC.out.trans (HW.out.mono SC.out.size))
    clear HW b
    go_wp2_with fail
    (with_reducible refine (rsame_at (b := true) _ ((LC.out.reads.below SC.out).below (by repeat (first | exact Below.refl _ _ | (with_reducible refine Below.drew ?_) | refine Below.setCell ?_ (by simp) _ | refine Below.alloc ?_ (by simp <;> omega) _))) (HD.out.below (by repeat (first | exact Below.refl _ _ | (with_reducible refine Below.drew ?_) | refine Below.setCell ?_ (by simp) _ | refine Below.alloc ?_ (by simp <;> omega) _))) (by simp)).mono ?_); rintro e w10 ⟨rfl, b⟩
    have HW := Lib.hid (show Below w9.heap.size w9 w10 from Below.trans (by repeat (first | exact Below.refl _ _ | (with_reducible refine Below.drew ?_) | refine Below.setCell ?_ (by simp) _ | refine Below.alloc ?_ (by simp <;> omega) _)) (b.mono (by simp <;> omega)))
    have uk0 : w10.cell? ⟨w9.heap.size, 0, none⟩ = some (.int .u8 a4.k) := cell_below b (by first | (simp; done) | go_simp)
    have uk1 : w10.cell? ⟨w9.heap.size, 1, none⟩ = some (.int .i64 a4.n) := cell_below b (by first | (simp; done) | go_simp)
    have uk2 : w10.cell? ⟨w9.heap.size, 2, none⟩ = some (.int .i64 a4.b) := cell_below b (by first | (simp; done) | go_simp)
    have uk3 : w10.cell? ⟨w9.heap.size, 3, none⟩ = some (.int .i64 a4.o) := cell_below b (by first | (simp; done) | go_simp)
    have uks : w9.heap.size < w10.heap.size := World.block_lt_of_cell? w10 _ uk0
    replace p0 := cell_below HW.out p0
    replace p1 := cell_below HW.out p1
    replace p2 := cell_below HW.out p2
    replace p3 := cell_below HW.out p3
    replace ps := Nat.lt_of_lt_of_le ps HW.out.size
    replace x0 := cell_below HW.out x0
    replace x1 := cell_below HW.out x1
    replace x2 := cell_below HW.out x2
    replace x3 := cell_below HW.out x3
    replace xs := Nat.lt_of_lt_of_le xs HW.out.size
    replace ua0 := cell_below HW.out ua0
    replace ua1 := cell_below HW.out ua1
    replace ua2 := cell_below HW.out ua2
    replace ua3 := cell_below HW.out ua3
    replace uas := Nat.lt_of_lt_of_le uas HW.out.size
    replace ub0 := cell_below HW.out ub0
    replace ub1 := cell_below HW.out ub1
    replace ub2 := cell_below HW.out ub2
    replace ub3 := cell_below HW.out ub3
    replace ubs := Nat.lt_of_lt_of_le ubs HW.out.size
    replace ui0 := cell_below HW.out ui0
    replace ui1 := cell_below HW.out ui1
    replace ui2 := cell_below HW.out ui2
    replace ui3 := cell_below HW.out ui3
    replace uis := Nat.lt_of_lt_of_le uis HW.out.size
    replace HM := Lib.hid (HM.out.below HW.out)
    replace HW0 := Lib.hid (HW0.out.below HW.out)
    replace HD := Lib.hid (HD.out.below HW.out)
    replace LG := Lib.hid (LG.out.below HW.out)
    replace HH := Lib.hid (HH.out.below HW.out)
    replace HB := Lib.hid (HB.out.trans (HW.out.mono HB.out.size))
    replace SB := Lib.hid (SB.out.trans (HW.out.mono SB.out.size))
    replace SC := Lib.hid (SC.out.trans (HW.out.mono SC.out.size))
    clear HW b
    go_wp2_with fail
    (with_reducible refine (rsame_at (b := true) _ (LG.out.reads.below (by repeat (first | exact Below.refl _ _ | (with_reducible refine Below.drew ?_) | refine Below.setCell ?_ (by simp) _ | refine Below.alloc ?_ (by simp <;> omega) _))) (HH.out.below (by repeat (first | exact Below.refl _ _ | (with_reducible refine Below.drew ?_) | refine Below.setCell ?_ (by simp) _ | refine Below.alloc ?_ (by simp <;> omega) _))) (by simp)).mono ?_); rintro e w11 ⟨rfl, b⟩
    have HW := Lib.hid (show Below w10.heap.size w10 w11 from Below.trans (by repeat (first | exact Below.refl _ _ | (with_reducible refine Below.drew ?_) | refine Below.setCell ?_ (by simp) _ | refine Below.alloc ?_ (by simp <;> omega) _)) (b.mono (by simp <;> omega)))
    replace p0 := cell_below HW.out p0
    replace p1 := cell_below HW.out p1
    replace p2 := cell_below HW.out p2
    replace p3 := cell_below HW.out p3
    replace ps := Nat.lt_of_lt_of_le ps HW.out.size
    replace x0 := cell_below HW.out x0
    replace x1 := cell_below HW.out x1
    replace x2 := cell_below HW.out x2
    replace x3 := cell_below HW.out x3
    replace xs := Nat.lt_of_lt_of_le xs HW.out.size
    replace ua0 := cell_below HW.out ua0
    replace ua1 := cell_below HW.out ua1
    replace ua2 := cell_below HW.out ua2
    replace ua3 := cell_below HW.out ua3
    replace uas := Nat.lt_of_lt_of_le uas HW.out.size
    replace ub0 := cell_below HW.out ub0
    replace ub1 := cell_below HW.out ub1
    replace ub2 := cell_below HW.out ub2
    replace ub3 := cell_below HW.out ub3
    replace ubs := Nat.lt_of_lt_of_le ubs HW.out.size
    replace ui0 := cell_below HW.out ui0
    replace ui1 := cell_below HW.out ui1
    replace ui2 := cell_below HW.out ui2
    replace ui3 := cell_below HW.out ui3
    replace uis := Nat.lt_of_lt_of_le uis HW.out.size
    replace uk0 := cell_below HW.out uk0
    replace uk1 := cell_below HW.out uk1
    replace uk2 := cell_below HW.out uk2
    replace uk3 := cell_below HW.out uk3
    replace uks := Nat.lt_of_lt_of_le uks HW.out.size
    replace HM := Lib.hid (HM.out.below HW.out)
    replace HW0 := Lib.hid (HW0.out.below HW.out)
    replace HD := Lib.hid (HD.out.below HW.out)
    replace LG := Lib.hid (LG.out.below HW.out)
    replace HH := Lib.hid (HH.out.below HW.out)
    replace HB := Lib.hid (HB.out.trans (HW.out.mono HB.out.size))
    replace SB := Lib.hid (SB.out.trans (HW.out.mono SB.out.size))
    replace SC := Lib.hid (SC.out.trans (HW.out.mono SC.out.size))
    clear HW b
    go_wp2_with fail
    (with_reducible refine (spoil_in _ LC.out (SC.out.trans (Below.trans (by repeat (first | exact Below.refl _ _ | (with_reducible refine Below.drew ?_) | refine Below.setCell ?_ (by simp) _ | refine Below.alloc ?_ (by simp <;> omega) _)) (Below.refl _ _))) S2.out.1 S2.out.2).mono ?_); rintro e ws ⟨rfl, hsp⟩
    have LG2 : Hid (Lay w4.heap.size ws v4 r3) := (LG.out.below (by repeat (first | exact Below.refl _ _ | (with_reducible refine Below.drew ?_) | refine Below.setCell ?_ (by simp) _ | refine Below.alloc ?_ (by simp <;> omega) _))).kept hsp (Nat.le_refl _)
    have BS : Hid (Below w1.heap.size w1 ws) := SB.out.trans (Below.trans (by repeat (first | exact Below.refl _ _ | (with_reducible refine Below.drew ?_) | refine Below.setCell ?_ (by simp) _ | refine Below.alloc ?_ (by simp <;> omega) _)) (hsp.below.mono ZC.out.1))
    clear hsp p0 p1 p2 p3 ps x0 x1 x2 x3 xs
    go_wp2_with fail
    (with_reducible refine (spoil_any _ (LG2.out.below (by repeat (first | exact Below.refl _ _ | (with_reducible refine Below.drew ?_) | refine Below.setCell ?_ (by simp) _ | refine Below.alloc ?_ (by simp <;> omega) _))) S3.out.1 S3.out.2).mono ?_); rintro e wt ⟨rfl, hsp⟩
    have BT : Hid (Below w1.heap.size w1 wt) := BS.out.trans (Below.trans (by repeat (first | exact Below.refl _ _ | (with_reducible refine Below.drew ?_) | refine Below.setCell ?_ (by simp) _ | refine Below.alloc ?_ (by simp <;> omega) _)) (hsp.mono (by have := ZC.out; omega)))
    clear hsp
    go_wp2_with fail
    (with_reducible refine (rsame_at (b := true) _ ((KW.out.below BT.out).below (by repeat (first | exact Below.refl _ _ | (with_reducible refine Below.drew ?_) | refine Below.setCell ?_ (by simp) _ | refine Below.alloc ?_ (by simp <;> omega) _))) ((KM.out.below BT.out).below (by repeat (first | exact Below.refl _ _ | (with_reducible refine Below.drew ?_) | refine Below.setCell ?_ (by simp) _ | refine Below.alloc ?_ (by simp <;> omega) _))) (by simp)).mono ?_); rintro e wz ⟨rfl, bz⟩
    have BZ : Hid (Below w.heap.size w wz) := (KB.out.trans (BT.out.mono KB.out.size)).trans (Below.trans (B := w.heap.size) (by repeat (first | exact Below.refl _ _ | (with_reducible refine Below.drew ?_) | refine Below.setCell ?_ (by simp) _ | refine Below.alloc ?_ (by simp <;> omega) _)) (bz.mono (by have := KB.out.size; have := BT.out.size; simp <;> omega)))
    clear bz
    go_wp2
    go_ret
    exact ⟨rfl, BZ.out⟩
  · go_wp2_with fail
    (with_reducible refine (great_at hg _ (HM.out.below (by repeat (first | exact Below.refl _ _ | (with_reducible refine Below.drew ?_) | refine Below.setCell ?_ (by simp) _ | refine Below.alloc ?_ (by simp <;> omega) _)))).mono ?_); rintro e _ ⟨rfl, rfl⟩
    go_wp2
    go_ret
    exact ⟨rfl, (by repeat (first | exact Below.refl _ _ | (with_reducible refine Below.drew ?_) | refine Below.setCell ?_ (by simp) _ | refine Below.alloc ?_ (by simp <;> omega) _))⟩


/-! ### THE ROW's STEP -/
theorem own : ownKnob Try.prog.godebug = none := by kernel_rfl

theorem laidOut : laidOutB Try.prog = true := by kernel_rfl

set_option maxRecDepth 100000 in
theorem lifted (os : Os) (started : os.Started) (H : Type) (enc : TypeId × Value → H) :
    ReturnsInHanded {} Try.checked os 7 .any (Rows.memDoesSpec.pre6 enc Try.prog Try.f7 Rows.memDoesRow.domain false) (Rows.memDoesSpec.post enc Try.prog Try.f7 false true false false) := by
  refine returnsInHanded_of_change (C := Try.checked) own started (by kernel_rfl) Try.func7
    (ChangeSpec.witness6 (enc := enc) (C := Try.checked) false ⟨#[], #[.slice none 0 0, .agg #[.int .u8 0, .int .i64 0, .int .i64 0, .int .i64 0], .agg #[.int .u8 0, .int .i64 0, .int .i64 0, .int .i64 0], .int .i64 0], []⟩ 8 (by kernel_rfl) (by kernel_rfl) (by kernel_rfl) (by kernel_rfl)) ?_
  intro W base args ds gs before hval0 hW hcnd _
  have hval : ∀ (j : Nat) t v, Try.f7.params[j]? = some t → args[j]? = some v → Value.okWide Try.prog W .any base t v := hval0
  have hW' := hW
  obtain ⟨p, q, hA0, hV, rfl, hfz, hnd⟩ := hW
  have hA : DataW.TrodAll enc Try.prog W 0 (fun _ => true) true Try.f7.params.toList args.toList ds p := hA0
  rw [Try.params7] at hA hval
  obtain ⟨v0, vs0, d0, ds0, p0, q0, hargs, rfl, rfl, h0, r0⟩ := trodAll_cons hA
  obtain ⟨v1, vs1, d1, ds1, p1, q1, rfl, rfl, rfl, h1, r1⟩ := trodAll_cons r0
  obtain ⟨v2, vs2, d2, ds2, p2, q2, rfl, rfl, rfl, h2, r2⟩ := trodAll_cons r1
  obtain ⟨v3, vs3, d3, ds3, p3, q3, rfl, rfl, rfl, h3, r3⟩ := trodAll_cons r2
  obtain ⟨rfl, rfl, rfl⟩ := trodAll_nil r3
  obtain rfl : args = #[v0, v1, v2, v3] := by cases args; simp_all
  obtain ⟨rfl, rfl⟩ := trodVars_none hV
  obtain ⟨m0, hm0⟩ := open_blks (hval 0 22 v0 rfl rfl) h0
  obtain ⟨k1, n1, b1, o1, rfl, kw1, nw1, bw1, ow1⟩ := open_val (hval 1 24 v1 rfl rfl) h1
  obtain ⟨k2, n2, b2, o2, rfl, kw2, nw2, bw2, ow2⟩ := open_val (hval 2 24 v2 rfl rfl) h2
  obtain ⟨a3, rfl, rfl, rfl, w3⟩ := open_int Try.underlying3 (hval 3 3 v3 rfl rfl) h3
  refine (core ⟨k1, n1, b1, o1⟩ ⟨k2, n2, b2, o2⟩ a3 W hm0 (by simp only [Lit.wf, IntKind.min, IntKind.max, IntKind.signed, IntKind.bits, Bool.and_eq_true, decide_eq_true_eq] at w3; simp at w3; omega)).mono fun e W' ⟨he, hg⟩ => ?_
  subst he
  exact ⟨_, rfl, law_post laidOut (by
    intro t ht
    simp only [Try.params7, List.mem_cons, List.not_mem_nil, or_false] at ht
    rcases ht with rfl | rfl | rfl | rfl <;> exact ⟨by kernel_rfl, of_decide_eq_true (by kernel_rfl)⟩) rfl rfl Try.underlying4 rfl hW' hg⟩

theorem over : Rows.memDoesRow.holds Try.pinned (OpenSpec.ofChange Rows.memDoesSpec) :=
  OpenClaim.holds_of_wide 7 Try.f7 rfl rfl rfl rfl rfl rfl rfl ⟨rfl, rfl, rfl, rfl, rfl⟩ rfl rfl rfl rfl rfl (by kernel_rfl) Try.func7 (by kernel_rfl)
    (of_decide_eq_true (by kernel_rfl)) (by unfold Func.isWrapper; first | (rw [if_pos (by decide +kernel)]; kernel_rfl) | (rw [if_neg (by decide +kernel)]; exact ⟨rfl, rfl⟩))
    (fun os started H enc _ => lifted os started H enc)

theorem proved : Rows.MemDoesSaid :=
  over
#print axioms proved

end Go.Proofs.Ytmelamlngjflkaa.memDoes

/- MemNames: the errors' and limits' numbers, and the chapter's further examples; the call answers true, and what is handed in reads as before. No condition. -/
import Derived.Test.YtmelamlngjflkaaRows
import Derived.WalkKit
import Derived.ProofKit
import Derived.OpenShut
import Derived.Below
import Derived.Outline
import Derived.LoopTactic
import Derived.Test.YtmelamlngjflkaaRep
import Derived.Test.YtmelamlngjflkaaU
import Derived.Test.YtmelamlngjflkaaQ
import Derived.Test.YtmelamlngjflkaaO
import Derived.Test.YtmelamlngjflkaaT2
import Derived.Lib.Hide
import Derived.RegionTactic
import Derived.BigRegion
import Derived.Deep.RegionWith
namespace Go.Proofs.Ytmelamlngjflkaa.memNames
open Go.Joins Go.ChangeShapes Go.WideShapes Go.ChangeAt Go.RowKit Go.Deep

theorem holds_at {m : List Blk} {v : Value} {b : Bool} {i : Int} (w : World) (hm : BsAt w v m) (hb : holdsB m = b) (hi : holdsI m = i) : Calls Try.prog 12 #[v] w fun e w' => e = .returned (.tuple #[.bool b, .int .i64 i]) ∧ Below w.heap.size w w' := by
  subst hb hi
  exact holds_any w hm

/-- A block without cells, and one whose cell points nowhere, as the text writes them out. -/
theorem bs_bare {w : World} {g : Nat} (h0 : w.cell? ⟨g, 0, none⟩ = some (.int .i64 0)) (h1 : w.cell? ⟨g, 1, none⟩ = some (.int .i64 0)) (h2 : w.cell? ⟨g, 2, none⟩ = some (.int .i64 0)) (h3 : w.cell? ⟨g, 3, none⟩ = some (.bool false)) (h4 : w.cell? ⟨g, 4, none⟩ = some (.slice none 0 0)) :
    BsAt w (.slice (some ⟨g, 0, none⟩) 1 1) [⟨0, 0, 0, false, []⟩] := by
  refine ⟨_, 1, rfl, by simp, fun i b hb => ?_⟩
  match i, hb with
  | 0, hb => injection hb with hb; subst hb; exact ⟨g, 0, rfl, h0, h1, h2, h3, _, h4, none, 0, rfl, by simp, fun k x hx => by simp at hx⟩
  | i + 1, hb => cases hb
theorem bs_far {w : World} {g k : Nat} (h0 : w.cell? ⟨g, 0, none⟩ = some (.int .i64 0)) (h1 : w.cell? ⟨g, 1, none⟩ = some (.int .i64 0)) (h2 : w.cell? ⟨g, 2, none⟩ = some (.int .i64 0)) (h3 : w.cell? ⟨g, 3, none⟩ = some (.bool false)) (h4 : w.cell? ⟨g, 4, none⟩ = some (.slice (some ⟨k, 0, none⟩) 1 1))
    (c0 : w.cell? ⟨k, 0, none⟩ = some (.int .u8 2)) (c1 : w.cell? ⟨k, 1, none⟩ = some (.int .i64 0)) (c2 : w.cell? ⟨k, 2, none⟩ = some (.int .i64 2)) (c3 : w.cell? ⟨k, 3, none⟩ = some (.int .i64 0)) :
    BsAt w (.slice (some ⟨g, 0, none⟩) 1 1) [⟨0, 0, 0, false, [⟨2, 0, 2, 0⟩]⟩] := by
  refine ⟨_, 1, rfl, by simp, fun i b hb => ?_⟩
  match i, hb with
  | 0, hb =>
    injection hb with hb
    subst hb
    refine ⟨g, 0, rfl, h0, h1, h2, h3, _, h4, some ⟨k, 0, none⟩, 1, rfl, by simp, fun j x hx => ?_⟩
    match j, hx with
    | 0, hx => injection hx with hx; subst hx; exact ⟨k, 0, rfl, c0, c1, c2, c3⟩
    | j + 1, hx => cases hx
  | i + 1, hb => cases hb

set_option maxRecDepth 100000 in
set_option maxHeartbeats 4000000 in
theorem core (w : World) : Calls Try.prog 4 #[] w fun e w' => e = .returned (.bool true) ∧ Below w.heap.size w w' := by
  go_enter Try.func4, Try.ntmps4
  have HB : Hid (Below w.heap.size w w) := Lib.hid (Below.refl _ _)
  go_wp2_with fail
  (with_reducible refine (new_at (r := [⟨3, 4, 1, true, [⟨2, 0, 0, 0⟩, ⟨3, 0, 0, 0⟩]⟩]) (p := ⟨2, 0, 1, 0⟩) (i := 0) 3 4 1 _ (bs_nil _) (l := [2, 3]) (ks_two (by decide) (by decide) (by simp) (by simp)) (by decide) (by decide) (by decide) (by decide)).mono ?_); rintro e w1 ⟨v1, rfl, lay, b⟩
  have HM1 := Lib.hid lay.reads; clear lay
  have HW := Lib.hid (show Below w.heap.size w w1 from Below.trans (by repeat (first | exact Below.refl _ _ | (with_reducible refine Below.drew ?_) | refine Below.setCell ?_ (by simp) _ | refine Below.alloc ?_ (by simp <;> omega) _)) (b.mono (by simp <;> omega)))
  replace HB := Lib.hid (HB.out.trans (HW.out.mono HB.out.size))
  clear HW b
  go_wp2_with fail
  (with_reducible refine (load_at (x := ⟨0, 0, 0, 0⟩) (i := 140) ⟨2, 0, 0, 0⟩ _ (HM1.out.below (by repeat (first | exact Below.refl _ _ | (with_reducible refine Below.drew ?_) | refine Below.setCell ?_ (by simp) _ | refine Below.alloc ?_ (by simp <;> omega) _))) (by decide) (by decide)).mono ?_); rintro e w2 ⟨rfl, b⟩
  have HW := Lib.hid (show Below w1.heap.size w1 w2 from Below.trans (by repeat (first | exact Below.refl _ _ | (with_reducible refine Below.drew ?_) | refine Below.setCell ?_ (by simp) _ | refine Below.alloc ?_ (by simp <;> omega) _)) (b.mono (by simp <;> omega)))
  have p0 : w2.cell? ⟨w1.heap.size, 0, none⟩ = some (.int .u8 2) := cell_below b (by first | (simp; done) | go_simp)
  have p1 : w2.cell? ⟨w1.heap.size, 1, none⟩ = some (.int .i64 0) := cell_below b (by first | (simp; done) | go_simp)
  have p2 : w2.cell? ⟨w1.heap.size, 2, none⟩ = some (.int .i64 1) := cell_below b (by first | (simp; done) | go_simp)
  have p3 : w2.cell? ⟨w1.heap.size, 3, none⟩ = some (.int .i64 0) := cell_below b (by first | (simp; done) | go_simp)
  have ps : w1.heap.size < w2.heap.size := World.block_lt_of_cell? w2 _ p0
  have nl0 : w2.cell? ⟨w1.heap.size + 1, 0, none⟩ = some (.int .u8 2) := cell_below b (by first | (simp; done) | go_simp)
  have nl1 : w2.cell? ⟨w1.heap.size + 1, 1, none⟩ = some (.int .i64 0) := cell_below b (by first | (simp; done) | go_simp)
  have nl2 : w2.cell? ⟨w1.heap.size + 1, 2, none⟩ = some (.int .i64 0) := cell_below b (by first | (simp; done) | go_simp)
  have nl3 : w2.cell? ⟨w1.heap.size + 1, 3, none⟩ = some (.int .i64 0) := cell_below b (by first | (simp; done) | go_simp)
  have nls : w1.heap.size + 1 < w2.heap.size := World.block_lt_of_cell? w2 _ nl0
  replace HM1 := Lib.hid (HM1.out.below HW.out)
  replace HB := Lib.hid (HB.out.trans (HW.out.mono HB.out.size))
  clear HW b
  go_wp2_with fail
  (with_reducible refine (free_at (r := []) (i := 143) ⟨2, 0, 1, 0⟩ _ (HM1.out.below (by repeat (first | exact Below.refl _ _ | (with_reducible refine Below.drew ?_) | refine Below.setCell ?_ (by simp) _ | refine Below.alloc ?_ (by simp <;> omega) _))) (by decide) (by decide)).mono ?_); rintro e w3 ⟨v2, rfl, lay, b⟩
  have HW := Lib.hid (show Below w2.heap.size w2 w3 from Below.trans (by repeat (first | exact Below.refl _ _ | (with_reducible refine Below.drew ?_) | refine Below.setCell ?_ (by simp) _ | refine Below.alloc ?_ (by simp <;> omega) _)) (b.mono (by simp <;> omega)))
  replace p0 := cell_below HW.out p0
  replace p1 := cell_below HW.out p1
  replace p2 := cell_below HW.out p2
  replace p3 := cell_below HW.out p3
  replace ps := Nat.lt_of_lt_of_le ps HW.out.size
  replace nl0 := cell_below HW.out nl0
  replace nl1 := cell_below HW.out nl1
  replace nl2 := cell_below HW.out nl2
  replace nl3 := cell_below HW.out nl3
  replace nls := Nat.lt_of_lt_of_le nls HW.out.size
  replace HM1 := Lib.hid (HM1.out.below HW.out)
  replace HB := Lib.hid (HB.out.trans (HW.out.mono HB.out.size))
  clear HW b
  clear lay
  go_wp2_with fail
  refine wp_region_leaves (fun a a' W => ∃ vv : Value, Lay w3.heap.size W vv ([]) ∧ Below w3.heap.size w3 W ∧ a' = (((((((((a.put (some 57) (v1)).put (some 58) (.agg #[.int .u8 2, .int .i64 0, .int .i64 1, .int .i64 0])).put (some 59) (.agg #[.int .u8 1, .int .i64 1, .int .i64 0, .int .i64 0])).put (some 60) (.tuple #[vv, .int .i64 2])).put (some 56) (.tuple #[vv, .int .i64 2])).put (some 61) vv).put (some 62) (.int .i64 2)).put (some 9) vv).put (some 10) (.int .i64 2))) ?_ ?_
  · go_region_with (first | (go_at_call 20; refine (number_any _ _).mono ?_; rintro e ux ⟨rfl, h3⟩; have k0 := cell_below h3 (w := _) p0; have k1 := cell_below h3 (w := _) p1; have k2 := cell_below h3 (w := _) p2; have k3 := cell_below h3 (w := _) p3) | (go_at_call 14; refine (store_at (r := []) (i := 2) ⟨2, 0, 1, 0⟩ ⟨1, 1, 0, 0⟩ _ ((HM1.out.below (by repeat (first | exact Below.refl _ _ | (with_reducible refine Below.drew ?_) | refine Below.setCell ?_ (by simp) _ | refine Below.alloc ?_ (by simp <;> omega) _))).below h3) (by decide) (by decide)).mono ?_; rintro e uy ⟨v4, rfl, lay, h4⟩))
    all_goals
      have h5 := h3.mono (B' := w3.heap.size) (by simp)
      have h6 := Below.trans (show Below w3.heap.size w3 ux from Below.trans (by repeat (first | exact Below.refl _ _ | (with_reducible refine Below.drew ?_) | refine Below.setCell ?_ (by simp) _ | refine Below.alloc ?_ (by simp <;> omega) _)) h5) (h4.mono h5.size)
      exact ⟨v4, lay.lower h5.size, h6, rfl⟩
  rintro a' w4 ⟨v3, lay, b, rfl⟩
  simp only [Act.put, List.setIfInBounds_toArray, List.set_cons_zero, List.set_cons_succ]
  have HM9 := Lib.hid lay.reads; clear lay
  have HW := Lib.hid (show Below w3.heap.size w3 w4 from Below.trans (by repeat (first | exact Below.refl _ _ | (with_reducible refine Below.drew ?_) | refine Below.setCell ?_ (by simp) _ | refine Below.alloc ?_ (by simp <;> omega) _)) (b.mono (by simp <;> omega)))
  replace p0 := cell_below HW.out p0
  replace p1 := cell_below HW.out p1
  replace p2 := cell_below HW.out p2
  replace p3 := cell_below HW.out p3
  replace ps := Nat.lt_of_lt_of_le ps HW.out.size
  replace nl0 := cell_below HW.out nl0
  replace nl1 := cell_below HW.out nl1
  replace nl2 := cell_below HW.out nl2
  replace nl3 := cell_below HW.out nl3
  replace nls := Nat.lt_of_lt_of_le nls HW.out.size
  replace HM1 := Lib.hid (HM1.out.below HW.out)
  replace HB := Lib.hid (HB.out.trans (HW.out.mono HB.out.size))
  clear HW b
  clear HM9
  go_wp2_with fail
  (with_reducible refine (store_at (r := [⟨3, 4, 1, true, [⟨2, 0, 1, 0⟩, ⟨3, 0, 0, 0⟩]⟩]) (i := 0) ⟨2, 0, 1, 0⟩ ⟨2, 0, 1, 0⟩ _ (HM1.out.below (by repeat (first | exact Below.refl _ _ | (with_reducible refine Below.drew ?_) | refine Below.setCell ?_ (by simp) _ | refine Below.alloc ?_ (by simp <;> omega) _))) (by decide) (by decide)).mono ?_); rintro e w5 ⟨v4, rfl, lay, b⟩
  have HM2 := Lib.hid lay.reads; clear lay
  have HW := Lib.hid (show Below w4.heap.size w4 w5 from Below.trans (by repeat (first | exact Below.refl _ _ | (with_reducible refine Below.drew ?_) | refine Below.setCell ?_ (by simp) _ | refine Below.alloc ?_ (by simp <;> omega) _)) (b.mono (by simp <;> omega)))
  replace p0 := cell_below HW.out p0
  replace p1 := cell_below HW.out p1
  replace p2 := cell_below HW.out p2
  replace p3 := cell_below HW.out p3
  replace ps := Nat.lt_of_lt_of_le ps HW.out.size
  replace nl0 := cell_below HW.out nl0
  replace nl1 := cell_below HW.out nl1
  replace nl2 := cell_below HW.out nl2
  replace nl3 := cell_below HW.out nl3
  replace nls := Nat.lt_of_lt_of_le nls HW.out.size
  replace HM1 := Lib.hid (HM1.out.below HW.out)
  replace HB := Lib.hid (HB.out.trans (HW.out.mono HB.out.size))
  clear HW b
  go_wp2_with fail
  (with_reducible refine (move_at (x := ⟨2, 0, 1, 1⟩) (i := 0) ⟨2, 0, 1, 0⟩ 1 _ (HM1.out.below (by repeat (first | exact Below.refl _ _ | (with_reducible refine Below.drew ?_) | refine Below.setCell ?_ (by simp) _ | refine Below.alloc ?_ (by simp <;> omega) _))) (by decide) (by decide) (by decide)).mono ?_); rintro e w6 ⟨rfl, b⟩
  have HW := Lib.hid (show Below w5.heap.size w5 w6 from Below.trans (by repeat (first | exact Below.refl _ _ | (with_reducible refine Below.drew ?_) | refine Below.setCell ?_ (by simp) _ | refine Below.alloc ?_ (by simp <;> omega) _)) (b.mono (by simp <;> omega)))
  replace p0 := cell_below HW.out p0
  replace p1 := cell_below HW.out p1
  replace p2 := cell_below HW.out p2
  replace p3 := cell_below HW.out p3
  replace ps := Nat.lt_of_lt_of_le ps HW.out.size
  replace nl0 := cell_below HW.out nl0
  replace nl1 := cell_below HW.out nl1
  replace nl2 := cell_below HW.out nl2
  replace nl3 := cell_below HW.out nl3
  replace nls := Nat.lt_of_lt_of_le nls HW.out.size
  replace HM1 := Lib.hid (HM1.out.below HW.out)
  replace HM2 := Lib.hid (HM2.out.below HW.out)
  replace HB := Lib.hid (HB.out.trans (HW.out.mono HB.out.size))
  clear HW b
  go_wp2_with fail
  (with_reducible refine (move_at (x := ⟨0, 0, 0, 0⟩) (i := 2) ⟨2, 0, 1, 0⟩ 2 _ (HM1.out.below (by repeat (first | exact Below.refl _ _ | (with_reducible refine Below.drew ?_) | refine Below.setCell ?_ (by simp) _ | refine Below.alloc ?_ (by simp <;> omega) _))) (by decide) (by decide) (by decide)).mono ?_); rintro e w7 ⟨rfl, b⟩
  have HW := Lib.hid (show Below w6.heap.size w6 w7 from Below.trans (by repeat (first | exact Below.refl _ _ | (with_reducible refine Below.drew ?_) | refine Below.setCell ?_ (by simp) _ | refine Below.alloc ?_ (by simp <;> omega) _)) (b.mono (by simp <;> omega)))
  have q0 : w7.cell? ⟨w6.heap.size, 0, none⟩ = some (.int .u8 2) := cell_below b (by first | (simp; done) | go_simp)
  have q1 : w7.cell? ⟨w6.heap.size, 1, none⟩ = some (.int .i64 0) := cell_below b (by first | (simp; done) | go_simp)
  have q2 : w7.cell? ⟨w6.heap.size, 2, none⟩ = some (.int .i64 1) := cell_below b (by first | (simp; done) | go_simp)
  have q3 : w7.cell? ⟨w6.heap.size, 3, none⟩ = some (.int .i64 1) := cell_below b (by first | (simp; done) | go_simp)
  have qs : w6.heap.size < w7.heap.size := World.block_lt_of_cell? w7 _ q0
  replace p0 := cell_below HW.out p0
  replace p1 := cell_below HW.out p1
  replace p2 := cell_below HW.out p2
  replace p3 := cell_below HW.out p3
  replace ps := Nat.lt_of_lt_of_le ps HW.out.size
  replace nl0 := cell_below HW.out nl0
  replace nl1 := cell_below HW.out nl1
  replace nl2 := cell_below HW.out nl2
  replace nl3 := cell_below HW.out nl3
  replace nls := Nat.lt_of_lt_of_le nls HW.out.size
  replace HM1 := Lib.hid (HM1.out.below HW.out)
  replace HM2 := Lib.hid (HM2.out.below HW.out)
  replace HB := Lib.hid (HB.out.trans (HW.out.mono HB.out.size))
  clear HW b
  go_wp2_with fail
  (with_reducible refine (move_at (x := ⟨0, 0, 0, 0⟩) (i := 2) ⟨2, 0, 1, 1⟩ (-2) _ (HM1.out.below (by repeat (first | exact Below.refl _ _ | (with_reducible refine Below.drew ?_) | refine Below.setCell ?_ (by simp) _ | refine Below.alloc ?_ (by simp <;> omega) _))) (by decide) (by decide) (by decide)).mono ?_); rintro e w8 ⟨rfl, b⟩
  have HW := Lib.hid (show Below w7.heap.size w7 w8 from Below.trans (by repeat (first | exact Below.refl _ _ | (with_reducible refine Below.drew ?_) | refine Below.setCell ?_ (by simp) _ | refine Below.alloc ?_ (by simp <;> omega) _)) (b.mono (by simp <;> omega)))
  replace p0 := cell_below HW.out p0
  replace p1 := cell_below HW.out p1
  replace p2 := cell_below HW.out p2
  replace p3 := cell_below HW.out p3
  replace ps := Nat.lt_of_lt_of_le ps HW.out.size
  replace nl0 := cell_below HW.out nl0
  replace nl1 := cell_below HW.out nl1
  replace nl2 := cell_below HW.out nl2
  replace nl3 := cell_below HW.out nl3
  replace nls := Nat.lt_of_lt_of_le nls HW.out.size
  replace q0 := cell_below HW.out q0
  replace q1 := cell_below HW.out q1
  replace q2 := cell_below HW.out q2
  replace q3 := cell_below HW.out q3
  replace qs := Nat.lt_of_lt_of_le qs HW.out.size
  replace HM1 := Lib.hid (HM1.out.below HW.out)
  replace HM2 := Lib.hid (HM2.out.below HW.out)
  replace HB := Lib.hid (HB.out.trans (HW.out.mono HB.out.size))
  clear HW b
  go_wp2_with fail
  (with_reducible refine (pop_at (r := [⟨3, 4, 1, false, [⟨2, 0, 1, 0⟩, ⟨3, 0, 0, 0⟩]⟩]) (i := 0) 1 _ (HM2.out.below (by repeat (first | exact Below.refl _ _ | (with_reducible refine Below.drew ?_) | refine Below.setCell ?_ (by simp) _ | refine Below.alloc ?_ (by simp <;> omega) _))) (by decide) (by decide)).mono ?_); rintro e w9 ⟨v5, rfl, lay, b⟩
  have HM3 := Lib.hid lay.reads; clear lay
  have HW := Lib.hid (show Below w8.heap.size w8 w9 from Below.trans (by repeat (first | exact Below.refl _ _ | (with_reducible refine Below.drew ?_) | refine Below.setCell ?_ (by simp) _ | refine Below.alloc ?_ (by simp <;> omega) _)) (b.mono (by simp <;> omega)))
  replace p0 := cell_below HW.out p0
  replace p1 := cell_below HW.out p1
  replace p2 := cell_below HW.out p2
  replace p3 := cell_below HW.out p3
  replace ps := Nat.lt_of_lt_of_le ps HW.out.size
  replace nl0 := cell_below HW.out nl0
  replace nl1 := cell_below HW.out nl1
  replace nl2 := cell_below HW.out nl2
  replace nl3 := cell_below HW.out nl3
  replace nls := Nat.lt_of_lt_of_le nls HW.out.size
  replace q0 := cell_below HW.out q0
  replace q1 := cell_below HW.out q1
  replace q2 := cell_below HW.out q2
  replace q3 := cell_below HW.out q3
  replace qs := Nat.lt_of_lt_of_le qs HW.out.size
  replace HM1 := Lib.hid (HM1.out.below HW.out)
  replace HM2 := Lib.hid (HM2.out.below HW.out)
  replace HB := Lib.hid (HB.out.trans (HW.out.mono HB.out.size))
  clear HW b
  go_wp2_with fail
  (with_reducible refine (load_at (x := ⟨0, 0, 0, 0⟩) (i := 142) ⟨2, 0, 1, 1⟩ _ (HM3.out.below (by repeat (first | exact Below.refl _ _ | (with_reducible refine Below.drew ?_) | refine Below.setCell ?_ (by simp) _ | refine Below.alloc ?_ (by simp <;> omega) _))) (by decide) (by decide)).mono ?_); rintro e w10 ⟨rfl, b⟩
  have HW := Lib.hid (show Below w9.heap.size w9 w10 from Below.trans (by repeat (first | exact Below.refl _ _ | (with_reducible refine Below.drew ?_) | refine Below.setCell ?_ (by simp) _ | refine Below.alloc ?_ (by simp <;> omega) _)) (b.mono (by simp <;> omega)))
  replace p0 := cell_below HW.out p0
  replace p1 := cell_below HW.out p1
  replace p2 := cell_below HW.out p2
  replace p3 := cell_below HW.out p3
  replace ps := Nat.lt_of_lt_of_le ps HW.out.size
  replace nl0 := cell_below HW.out nl0
  replace nl1 := cell_below HW.out nl1
  replace nl2 := cell_below HW.out nl2
  replace nl3 := cell_below HW.out nl3
  replace nls := Nat.lt_of_lt_of_le nls HW.out.size
  replace q0 := cell_below HW.out q0
  replace q1 := cell_below HW.out q1
  replace q2 := cell_below HW.out q2
  replace q3 := cell_below HW.out q3
  replace qs := Nat.lt_of_lt_of_le qs HW.out.size
  replace HM1 := Lib.hid (HM1.out.below HW.out)
  replace HM2 := Lib.hid (HM2.out.below HW.out)
  replace HM3 := Lib.hid (HM3.out.below HW.out)
  replace HB := Lib.hid (HB.out.trans (HW.out.mono HB.out.size))
  clear HW b
  go_wp2_with fail
  (with_reducible refine (number_any _ _).mono ?_); rintro e w11 ⟨rfl, b⟩
  have HW := Lib.hid (show Below w10.heap.size w10 w11 from Below.trans (by repeat (first | exact Below.refl _ _ | (with_reducible refine Below.drew ?_) | refine Below.setCell ?_ (by simp) _ | refine Below.alloc ?_ (by simp <;> omega) _)) (b.mono (by simp <;> omega)))
  replace p0 := cell_below HW.out p0
  replace p1 := cell_below HW.out p1
  replace p2 := cell_below HW.out p2
  replace p3 := cell_below HW.out p3
  replace ps := Nat.lt_of_lt_of_le ps HW.out.size
  replace nl0 := cell_below HW.out nl0
  replace nl1 := cell_below HW.out nl1
  replace nl2 := cell_below HW.out nl2
  replace nl3 := cell_below HW.out nl3
  replace nls := Nat.lt_of_lt_of_le nls HW.out.size
  replace q0 := cell_below HW.out q0
  replace q1 := cell_below HW.out q1
  replace q2 := cell_below HW.out q2
  replace q3 := cell_below HW.out q3
  replace qs := Nat.lt_of_lt_of_le qs HW.out.size
  replace HM1 := Lib.hid (HM1.out.below HW.out)
  replace HM2 := Lib.hid (HM2.out.below HW.out)
  replace HM3 := Lib.hid (HM3.out.below HW.out)
  replace HB := Lib.hid (HB.out.trans (HW.out.mono HB.out.size))
  clear HW b
  go_wp2_with fail
  (with_reducible refine (load_at (x := ⟨0, 0, 0, 0⟩) (i := 2) ⟨1, 0, 0, 0⟩ _ (HM1.out.below (by repeat (first | exact Below.refl _ _ | (with_reducible refine Below.drew ?_) | refine Below.setCell ?_ (by simp) _ | refine Below.alloc ?_ (by simp <;> omega) _))) (by decide) (by decide)).mono ?_); rintro e w12 ⟨rfl, b⟩
  have HW := Lib.hid (show Below w11.heap.size w11 w12 from Below.trans (by repeat (first | exact Below.refl _ _ | (with_reducible refine Below.drew ?_) | refine Below.setCell ?_ (by simp) _ | refine Below.alloc ?_ (by simp <;> omega) _)) (b.mono (by simp <;> omega)))
  replace p0 := cell_below HW.out p0
  replace p1 := cell_below HW.out p1
  replace p2 := cell_below HW.out p2
  replace p3 := cell_below HW.out p3
  replace ps := Nat.lt_of_lt_of_le ps HW.out.size
  replace nl0 := cell_below HW.out nl0
  replace nl1 := cell_below HW.out nl1
  replace nl2 := cell_below HW.out nl2
  replace nl3 := cell_below HW.out nl3
  replace nls := Nat.lt_of_lt_of_le nls HW.out.size
  replace q0 := cell_below HW.out q0
  replace q1 := cell_below HW.out q1
  replace q2 := cell_below HW.out q2
  replace q3 := cell_below HW.out q3
  replace qs := Nat.lt_of_lt_of_le qs HW.out.size
  replace HM1 := Lib.hid (HM1.out.below HW.out)
  replace HM2 := Lib.hid (HM2.out.below HW.out)
  replace HM3 := Lib.hid (HM3.out.below HW.out)
  replace HB := Lib.hid (HB.out.trans (HW.out.mono HB.out.size))
  clear HW b
  go_wp2_with fail
  (with_reducible refine (pop_at (r := []) (i := 2) 0 _ (HM1.out.below (by repeat (first | exact Below.refl _ _ | (with_reducible refine Below.drew ?_) | refine Below.setCell ?_ (by simp) _ | refine Below.alloc ?_ (by simp <;> omega) _))) (by decide) (by decide)).mono ?_); rintro e w13 ⟨v6, rfl, lay, b⟩
  have HW := Lib.hid (show Below w12.heap.size w12 w13 from Below.trans (by repeat (first | exact Below.refl _ _ | (with_reducible refine Below.drew ?_) | refine Below.setCell ?_ (by simp) _ | refine Below.alloc ?_ (by simp <;> omega) _)) (b.mono (by simp <;> omega)))
  replace p0 := cell_below HW.out p0
  replace p1 := cell_below HW.out p1
  replace p2 := cell_below HW.out p2
  replace p3 := cell_below HW.out p3
  replace ps := Nat.lt_of_lt_of_le ps HW.out.size
  replace nl0 := cell_below HW.out nl0
  replace nl1 := cell_below HW.out nl1
  replace nl2 := cell_below HW.out nl2
  replace nl3 := cell_below HW.out nl3
  replace nls := Nat.lt_of_lt_of_le nls HW.out.size
  replace q0 := cell_below HW.out q0
  replace q1 := cell_below HW.out q1
  replace q2 := cell_below HW.out q2
  replace q3 := cell_below HW.out q3
  replace qs := Nat.lt_of_lt_of_le qs HW.out.size
  replace HM1 := Lib.hid (HM1.out.below HW.out)
  replace HM2 := Lib.hid (HM2.out.below HW.out)
  replace HM3 := Lib.hid (HM3.out.below HW.out)
  replace HB := Lib.hid (HB.out.trans (HW.out.mono HB.out.size))
  clear HW b
  clear lay
  go_wp2_with fail
  (with_reducible refine (new_at (r := []) (p := ⟨0, 0, 0, 0⟩) (i := 2) 0 0 0 _ (HM1.out.below (by repeat (first | exact Below.refl _ _ | (with_reducible refine Below.drew ?_) | refine Below.setCell ?_ (by simp) _ | refine Below.alloc ?_ (by simp <;> omega) _))) (l := [4]) (ks_one (by decide) (by simp)) (by decide) (by decide) (by decide) (by decide)).mono ?_); rintro e w14 ⟨v7, rfl, lay, b⟩
  have HW := Lib.hid (show Below w13.heap.size w13 w14 from Below.trans (by repeat (first | exact Below.refl _ _ | (with_reducible refine Below.drew ?_) | refine Below.setCell ?_ (by simp) _ | refine Below.alloc ?_ (by simp <;> omega) _)) (b.mono (by simp <;> omega)))
  replace p0 := cell_below HW.out p0
  replace p1 := cell_below HW.out p1
  replace p2 := cell_below HW.out p2
  replace p3 := cell_below HW.out p3
  replace ps := Nat.lt_of_lt_of_le ps HW.out.size
  replace nl0 := cell_below HW.out nl0
  replace nl1 := cell_below HW.out nl1
  replace nl2 := cell_below HW.out nl2
  replace nl3 := cell_below HW.out nl3
  replace nls := Nat.lt_of_lt_of_le nls HW.out.size
  replace q0 := cell_below HW.out q0
  replace q1 := cell_below HW.out q1
  replace q2 := cell_below HW.out q2
  replace q3 := cell_below HW.out q3
  replace qs := Nat.lt_of_lt_of_le qs HW.out.size
  replace HM1 := Lib.hid (HM1.out.below HW.out)
  replace HM2 := Lib.hid (HM2.out.below HW.out)
  replace HM3 := Lib.hid (HM3.out.below HW.out)
  replace HB := Lib.hid (HB.out.trans (HW.out.mono HB.out.size))
  clear HW b
  clear lay
  go_wp2_with fail
  (with_reducible refine (new_at (r := []) (p := ⟨0, 0, 0, 0⟩) (i := 2) 0 0 0 _ (HM1.out.below (by repeat (first | exact Below.refl _ _ | (with_reducible refine Below.drew ?_) | refine Below.setCell ?_ (by simp) _ | refine Below.alloc ?_ (by simp <;> omega) _))) (l := []) (ks_nil _) (by decide) (by decide) (by decide) (by decide)).mono ?_); rintro e w15 ⟨v8, rfl, lay, b⟩
  have HW := Lib.hid (show Below w14.heap.size w14 w15 from Below.trans (by repeat (first | exact Below.refl _ _ | (with_reducible refine Below.drew ?_) | refine Below.setCell ?_ (by simp) _ | refine Below.alloc ?_ (by simp <;> omega) _)) (b.mono (by simp <;> omega)))
  replace p0 := cell_below HW.out p0
  replace p1 := cell_below HW.out p1
  replace p2 := cell_below HW.out p2
  replace p3 := cell_below HW.out p3
  replace ps := Nat.lt_of_lt_of_le ps HW.out.size
  replace nl0 := cell_below HW.out nl0
  replace nl1 := cell_below HW.out nl1
  replace nl2 := cell_below HW.out nl2
  replace nl3 := cell_below HW.out nl3
  replace nls := Nat.lt_of_lt_of_le nls HW.out.size
  replace q0 := cell_below HW.out q0
  replace q1 := cell_below HW.out q1
  replace q2 := cell_below HW.out q2
  replace q3 := cell_below HW.out q3
  replace qs := Nat.lt_of_lt_of_le qs HW.out.size
  replace HM1 := Lib.hid (HM1.out.below HW.out)
  replace HM2 := Lib.hid (HM2.out.below HW.out)
  replace HM3 := Lib.hid (HM3.out.below HW.out)
  replace HB := Lib.hid (HB.out.trans (HW.out.mono HB.out.size))
  clear HW b
  clear lay
  go_wp2_with fail
  (with_reducible refine (holds_at (b := true) (i := 0) _ (HM2.out.below (by repeat (first | exact Below.refl _ _ | (with_reducible refine Below.drew ?_) | refine Below.setCell ?_ (by simp) _ | refine Below.alloc ?_ (by simp <;> omega) _))) (by decide) (by decide)).mono ?_); rintro e w16 ⟨rfl, b⟩
  have HW := Lib.hid (show Below w15.heap.size w15 w16 from Below.trans (by repeat (first | exact Below.refl _ _ | (with_reducible refine Below.drew ?_) | refine Below.setCell ?_ (by simp) _ | refine Below.alloc ?_ (by simp <;> omega) _)) (b.mono (by simp <;> omega)))
  replace p0 := cell_below HW.out p0
  replace p1 := cell_below HW.out p1
  replace p2 := cell_below HW.out p2
  replace p3 := cell_below HW.out p3
  replace ps := Nat.lt_of_lt_of_le ps HW.out.size
  replace nl0 := cell_below HW.out nl0
  replace nl1 := cell_below HW.out nl1
  replace nl2 := cell_below HW.out nl2
  replace nl3 := cell_below HW.out nl3
  replace nls := Nat.lt_of_lt_of_le nls HW.out.size
  replace q0 := cell_below HW.out q0
  replace q1 := cell_below HW.out q1
  replace q2 := cell_below HW.out q2
  replace q3 := cell_below HW.out q3
  replace qs := Nat.lt_of_lt_of_le qs HW.out.size
  replace HM1 := Lib.hid (HM1.out.below HW.out)
  replace HM2 := Lib.hid (HM2.out.below HW.out)
  replace HM3 := Lib.hid (HM3.out.below HW.out)
  replace HB := Lib.hid (HB.out.trans (HW.out.mono HB.out.size))
  clear HW b
  go_wp2_with fail
  (with_reducible refine (alive_any _).mono ?_); rintro e w17 ⟨rfl, b⟩
  have HW := Lib.hid (show Below w16.heap.size w16 w17 from Below.trans (by repeat (first | exact Below.refl _ _ | (with_reducible refine Below.drew ?_) | refine Below.setCell ?_ (by simp) _ | refine Below.alloc ?_ (by simp <;> omega) _)) (b.mono (by simp <;> omega)))
  replace p0 := cell_below HW.out p0
  replace p1 := cell_below HW.out p1
  replace p2 := cell_below HW.out p2
  replace p3 := cell_below HW.out p3
  replace ps := Nat.lt_of_lt_of_le ps HW.out.size
  replace nl0 := cell_below HW.out nl0
  replace nl1 := cell_below HW.out nl1
  replace nl2 := cell_below HW.out nl2
  replace nl3 := cell_below HW.out nl3
  replace nls := Nat.lt_of_lt_of_le nls HW.out.size
  replace q0 := cell_below HW.out q0
  replace q1 := cell_below HW.out q1
  replace q2 := cell_below HW.out q2
  replace q3 := cell_below HW.out q3
  replace qs := Nat.lt_of_lt_of_le qs HW.out.size
  replace HM1 := Lib.hid (HM1.out.below HW.out)
  replace HM2 := Lib.hid (HM2.out.below HW.out)
  replace HM3 := Lib.hid (HM3.out.below HW.out)
  replace HB := Lib.hid (HB.out.trans (HW.out.mono HB.out.size))
  clear HW b
  go_wp2_with fail
  (with_reducible refine (check_no _ (bs_bare (g := w17.heap.size) (by simp) (by simp) (by simp) (by simp) (by simp)) (by decide)).mono ?_); rintro e w18 ⟨rfl, b⟩
  have HW := Lib.hid (show Below w17.heap.size w17 w18 from Below.trans (by repeat (first | exact Below.refl _ _ | (with_reducible refine Below.drew ?_) | refine Below.setCell ?_ (by simp) _ | refine Below.alloc ?_ (by simp <;> omega) _)) (b.mono (by simp <;> omega)))
  replace p0 := cell_below HW.out p0
  replace p1 := cell_below HW.out p1
  replace p2 := cell_below HW.out p2
  replace p3 := cell_below HW.out p3
  replace ps := Nat.lt_of_lt_of_le ps HW.out.size
  replace nl0 := cell_below HW.out nl0
  replace nl1 := cell_below HW.out nl1
  replace nl2 := cell_below HW.out nl2
  replace nl3 := cell_below HW.out nl3
  replace nls := Nat.lt_of_lt_of_le nls HW.out.size
  replace q0 := cell_below HW.out q0
  replace q1 := cell_below HW.out q1
  replace q2 := cell_below HW.out q2
  replace q3 := cell_below HW.out q3
  replace qs := Nat.lt_of_lt_of_le qs HW.out.size
  replace HM1 := Lib.hid (HM1.out.below HW.out)
  replace HM2 := Lib.hid (HM2.out.below HW.out)
  replace HM3 := Lib.hid (HM3.out.below HW.out)
  replace HB := Lib.hid (HB.out.trans (HW.out.mono HB.out.size))
  clear HW b
  go_wp2_with fail
  (with_reducible refine (check_no _ (bs_far (g := w18.heap.size + 1) (k := w18.heap.size) (by simp) (by simp) (by simp) (by simp) (by simp) (by simp) (by simp) (by simp) (by simp)) (by decide)).mono ?_); rintro e w19 ⟨rfl, b⟩
  have HW := Lib.hid (show Below w18.heap.size w18 w19 from Below.trans (by repeat (first | exact Below.refl _ _ | (with_reducible refine Below.drew ?_) | refine Below.setCell ?_ (by simp) _ | refine Below.alloc ?_ (by simp <;> omega) _)) (b.mono (by simp <;> omega)))
  replace p0 := cell_below HW.out p0
  replace p1 := cell_below HW.out p1
  replace p2 := cell_below HW.out p2
  replace p3 := cell_below HW.out p3
  replace ps := Nat.lt_of_lt_of_le ps HW.out.size
  replace nl0 := cell_below HW.out nl0
  replace nl1 := cell_below HW.out nl1
  replace nl2 := cell_below HW.out nl2
  replace nl3 := cell_below HW.out nl3
  replace nls := Nat.lt_of_lt_of_le nls HW.out.size
  replace q0 := cell_below HW.out q0
  replace q1 := cell_below HW.out q1
  replace q2 := cell_below HW.out q2
  replace q3 := cell_below HW.out q3
  replace qs := Nat.lt_of_lt_of_le qs HW.out.size
  replace HM1 := Lib.hid (HM1.out.below HW.out)
  replace HM2 := Lib.hid (HM2.out.below HW.out)
  replace HM3 := Lib.hid (HM3.out.below HW.out)
  replace HB := Lib.hid (HB.out.trans (HW.out.mono HB.out.size))
  clear HW b
  go_wp2
  go_ret
  exact ⟨rfl, HB.out⟩


/-! ### THE ROW's STEP -/
theorem own : ownKnob Try.prog.godebug = none := by kernel_rfl

theorem laidOut : laidOutB Try.prog = true := by kernel_rfl

set_option maxRecDepth 100000 in
theorem lifted (os : Os) (started : os.Started) (H : Type) (enc : TypeId × Value → H) :
    ReturnsInHanded {} Try.checked os 4 .any (Rows.memNamesSpec.pre6 enc Try.prog Try.f4 Rows.memNamesRow.domain false) (Rows.memNamesSpec.post enc Try.prog Try.f4 false true false false) := by
  refine returnsInHanded_of_change (C := Try.checked) own started (by kernel_rfl) Try.func4
    (ChangeSpec.witness6 (enc := enc) (C := Try.checked) false ⟨#[], #[], []⟩ 8 (by kernel_rfl) (by kernel_rfl) (by kernel_rfl) (by kernel_rfl)) ?_
  intro W base args ds gs before hval0 hW hcnd _
  have hval : ∀ (j : Nat) t v, Try.f4.params[j]? = some t → args[j]? = some v → Value.okWide Try.prog W .any base t v := hval0
  have hW' := hW
  obtain ⟨p, q, hA0, hV, rfl, hfz, hnd⟩ := hW
  have hA : DataW.TrodAll enc Try.prog W 0 (fun _ => true) true Try.f4.params.toList args.toList ds p := hA0
  rw [Try.params4] at hA hval
  obtain ⟨hargs, rfl, rfl⟩ := trodAll_nil hA
  obtain rfl : args = #[] := by cases args; simp_all
  obtain ⟨rfl, rfl⟩ := trodVars_none hV
  refine (core W).mono fun e W' ⟨he, hg⟩ => ?_
  subst he
  exact ⟨_, rfl, law_post laidOut (by
    intro t ht
    simp [Try.params4] at ht) rfl rfl Try.underlying4 rfl hW' hg⟩

theorem over : Rows.memNamesRow.holds Try.pinned (OpenSpec.ofChange Rows.memNamesSpec) :=
  OpenClaim.holds_of_wide 4 Try.f4 rfl rfl rfl rfl rfl rfl rfl ⟨rfl, rfl, rfl, rfl, rfl⟩ rfl rfl rfl rfl rfl (by kernel_rfl) Try.func4 (by kernel_rfl)
    (of_decide_eq_true (by kernel_rfl)) (by unfold Func.isWrapper; first | (rw [if_pos (by decide +kernel)]; kernel_rfl) | (rw [if_neg (by decide +kernel)]; exact ⟨rfl, rfl⟩))
    (fun os started H enc _ => lifted os started H enc)

theorem proved : Rows.MemNamesSaid :=
  over
#print axioms proved

end Go.Proofs.Ytmelamlngjflkaa.memNames

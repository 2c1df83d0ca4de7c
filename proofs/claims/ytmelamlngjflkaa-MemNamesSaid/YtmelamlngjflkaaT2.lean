/- alive -/
import Derived.Test.YtmelamlngjflkaaRows
import Derived.WalkKit
import Derived.ProofKit
import Derived.OpenShut
import Derived.Below
import Derived.Outline
import Derived.LoopTactic
import Derived.Test.YtmelamlngjflkaaRep
import Derived.Test.YtmelamlngjflkaaU
import Derived.Lib.Hide
import Derived.RegionTactic
import Derived.BigRegion
import Derived.Deep.RegionWith
import Derived.Test.YtmelamlngjflkaaT
namespace Go.Proofs.Ytmelamlngjflkaa
open Go.ChangeShapes Go.WideShapes Go.ChangeAt Go.RowKit
set_option linter.unusedVariables false

theorem run_max4 (w : World) (ts : Array TypeId) (t : TypeId) : Sem.run Try.prog (Builtin.max_ ts t #[.int .i64 0, .int .i64 0, .int .i64 0, .int .i64 0]) w = .ok (.int .i64 0) w := rfl
theorem run_max2 (w : World) (ts : Array TypeId) (t : TypeId) : Sem.run Try.prog (Builtin.max_ ts t #[.int .i64 0, .int .i64 0]) w = .ok (.int .i64 0) w := rfl
attribute [local go_sem] run_max4 run_max2

set_option maxHeartbeats 1000000 in
theorem alive_any (w : World) : Calls Try.prog 11 #[] w fun e w' => e = .returned (.bool true) ∧ Below w.heap.size w w' := by
  go_enter Try.func11, Try.ntmps11
  have HB : Hid (Below w.heap.size w w) := Lib.hid (Below.refl _ _)
  go_wp2_with fail
  (with_reducible refine (new_at (r := [⟨0, 0, 0, true, [⟨1, 0, 0, 0⟩]⟩]) (p := ⟨2, 0, 1, 0⟩) (i := 0) 0 0 0 _ (bs_nil _) (l := [1]) (ks_one (by decide) (by simp)) (by decide) (by decide) (by decide) (by decide)).mono ?_); rintro e w1 ⟨v1, rfl, lay, b⟩
  have HM1 := Lib.hid lay.reads; clear lay
  have HW := Lib.hid (show Below w.heap.size w w1 from Below.trans (by repeat (first | exact Below.refl _ _ | (with_reducible refine Below.drew ?_) | refine Below.setCell ?_ (by simp) _ | refine Below.alloc ?_ (by simp) _)) (b.mono (by simp <;> omega)))
  replace HB := Lib.hid (HB.out.trans (HW.out.mono HB.out.size))
  clear HW b
  go_wp2_with fail
  refine wp_region_leaves (fun a a' W => ∃ vv : Value, Lay (w1.alloc (.cells #[.int .u8 2, .int .i64 0, .int .i64 1, .int .i64 0] 24)).heap.size W vv ([⟨0, 0, 0, true, [⟨1, 7, 0, 0⟩]⟩]) ∧ Below (w1.alloc (.cells #[.int .u8 2, .int .i64 0, .int .i64 1, .int .i64 0] 24)).heap.size (w1.alloc (.cells #[.int .u8 2, .int .i64 0, .int .i64 1, .int .i64 0] 24)) W ∧ a' = (((((((((a.put (some 27) (v1)).put (some 28) (.agg #[.int .u8 2, .int .i64 0, .int .i64 1, .int .i64 0])).put (some 29) (.agg #[.int .u8 1, .int .i64 7, .int .i64 0, .int .i64 0])).put (some 30) (.tuple #[vv, .int .i64 0])).put (some 26) (.tuple #[vv, .int .i64 0])).put (some 31) vv).put (some 32) (.int .i64 0)).put (some 4) vv).put (some 5) (.int .i64 0))) ?_ ?_
  · go_region_with (first | (go_at_call 20; refine (number_any _ _).mono ?_; rintro e w3 ⟨rfl, h3⟩; have k0 : w3.cell? ⟨w1.heap.size, 0, none⟩ = some (.int .u8 2) := cell_below h3 (by simp); have k1 : w3.cell? ⟨w1.heap.size, 1, none⟩ = some (.int .i64 0) := cell_below h3 (by simp); have k2 : w3.cell? ⟨w1.heap.size, 2, none⟩ = some (.int .i64 1) := cell_below h3 (by simp); have k3 : w3.cell? ⟨w1.heap.size, 3, none⟩ = some (.int .i64 0) := cell_below h3 (by simp)) | (go_at_call 14; refine (store_at (r := [⟨0, 0, 0, true, [⟨1, 7, 0, 0⟩]⟩]) (i := 0) ⟨2, 0, 1, 0⟩ ⟨1, 7, 0, 0⟩ _ ((HM1.out.below (by repeat (first | exact Below.refl _ _ | (with_reducible refine Below.drew ?_) | refine Below.setCell ?_ (by simp) _ | refine Below.alloc ?_ (by simp) _))).below h3) (by decide) (by decide)).mono ?_; rintro e w4 ⟨v4, rfl, lay, h4⟩))
    all_goals
      have h5 := h3.mono (B' := (w1.alloc (.cells #[.int .u8 2, .int .i64 0, .int .i64 1, .int .i64 0] 24)).heap.size) (by simp)
      have h6 := Below.trans (show Below (w1.alloc (.cells #[.int .u8 2, .int .i64 0, .int .i64 1, .int .i64 0] 24)).heap.size (w1.alloc (.cells #[.int .u8 2, .int .i64 0, .int .i64 1, .int .i64 0] 24)) w3 from Below.trans (by repeat (first | exact Below.refl _ _ | (with_reducible refine Below.drew ?_) | refine Below.setCell ?_ (by simp) _ | refine Below.alloc ?_ (by simp) _)) h5) (h4.mono h5.size)
      exact ⟨v4, lay.lower h5.size, h6, rfl⟩
  rintro a' w2 ⟨v2, lay, b, rfl⟩
  simp only [Act.put, List.setIfInBounds_toArray, List.set_cons_zero, List.set_cons_succ]
  have HM2 := Lib.hid lay.reads; clear lay
  have HW := Lib.hid (show Below w1.heap.size w1 w2 from Below.trans (by repeat (first | exact Below.refl _ _ | (with_reducible refine Below.drew ?_) | refine Below.setCell ?_ (by simp) _ | refine Below.alloc ?_ (by simp) _)) (b.mono (by simp <;> omega)))
  have p0 : w2.cell? ⟨w1.heap.size, 0, none⟩ = some (.int .u8 2) := cell_below b (by simp)
  have p1 : w2.cell? ⟨w1.heap.size, 1, none⟩ = some (.int .i64 0) := cell_below b (by simp)
  have p2 : w2.cell? ⟨w1.heap.size, 2, none⟩ = some (.int .i64 1) := cell_below b (by simp)
  have p3 : w2.cell? ⟨w1.heap.size, 3, none⟩ = some (.int .i64 0) := cell_below b (by simp)
  have ps : w1.heap.size < w2.heap.size := World.block_lt_of_cell? w2 _ p0
  replace HM1 := Lib.hid (HM1.out.below HW.out)
  replace HB := Lib.hid (HB.out.trans (HW.out.mono HB.out.size))
  clear HW b
  go_wp2_with fail
  (with_reducible refine (load_at (x := ⟨1, 7, 0, 0⟩) (i := 0) ⟨2, 0, 1, 0⟩ _ (HM2.out.below (by repeat (first | exact Below.refl _ _ | (with_reducible refine Below.drew ?_) | refine Below.setCell ?_ (by simp) _ | refine Below.alloc ?_ (by simp) _))) (by decide) (by decide)).mono ?_); rintro e w3 ⟨rfl, b⟩
  have HW := Lib.hid (show Below w2.heap.size w2 w3 from Below.trans (by repeat (first | exact Below.refl _ _ | (with_reducible refine Below.drew ?_) | refine Below.setCell ?_ (by simp) _ | refine Below.alloc ?_ (by simp) _)) (b.mono (by simp <;> omega)))
  replace p0 := cell_below HW.out p0
  replace p1 := cell_below HW.out p1
  replace p2 := cell_below HW.out p2
  replace p3 := cell_below HW.out p3
  replace ps := Nat.lt_of_lt_of_le ps HW.out.size
  replace HM1 := Lib.hid (HM1.out.below HW.out)
  replace HM2 := Lib.hid (HM2.out.below HW.out)
  replace HB := Lib.hid (HB.out.trans (HW.out.mono HB.out.size))
  clear HW b
  go_wp2_with fail
  (with_reducible refine (free_at (r := [⟨0, 0, 0, false, [⟨1, 7, 0, 0⟩]⟩]) (i := 0) ⟨2, 0, 1, 0⟩ _ (HM2.out.below (by repeat (first | exact Below.refl _ _ | (with_reducible refine Below.drew ?_) | refine Below.setCell ?_ (by simp) _ | refine Below.alloc ?_ (by simp) _))) (by decide) (by decide)).mono ?_); rintro e w4 ⟨v3, rfl, lay, b⟩
  have HM3 := Lib.hid lay.reads; clear lay
  have HW := Lib.hid (show Below w3.heap.size w3 w4 from Below.trans (by repeat (first | exact Below.refl _ _ | (with_reducible refine Below.drew ?_) | refine Below.setCell ?_ (by simp) _ | refine Below.alloc ?_ (by simp) _)) (b.mono (by simp <;> omega)))
  have x0 : w4.cell? ⟨w3.heap.size, 0, none⟩ = some (.int .u8 1) := cell_below b (by simp)
  have x1 : w4.cell? ⟨w3.heap.size, 1, none⟩ = some (.int .i64 7) := cell_below b (by simp)
  have x2 : w4.cell? ⟨w3.heap.size, 2, none⟩ = some (.int .i64 0) := cell_below b (by simp)
  have x3 : w4.cell? ⟨w3.heap.size, 3, none⟩ = some (.int .i64 0) := cell_below b (by simp)
  have xs : w3.heap.size < w4.heap.size := World.block_lt_of_cell? w4 _ x0
  replace p0 := cell_below HW.out p0
  replace p1 := cell_below HW.out p1
  replace p2 := cell_below HW.out p2
  replace p3 := cell_below HW.out p3
  replace ps := Nat.lt_of_lt_of_le ps HW.out.size
  replace HM1 := Lib.hid (HM1.out.below HW.out)
  replace HM2 := Lib.hid (HM2.out.below HW.out)
  replace HB := Lib.hid (HB.out.trans (HW.out.mono HB.out.size))
  clear HW b
  go_wp2_with fail
  (with_reducible refine (load_at (x := ⟨0, 0, 0, 0⟩) (i := 142) ⟨2, 0, 1, 0⟩ _ (HM3.out.below (by repeat (first | exact Below.refl _ _ | (with_reducible refine Below.drew ?_) | refine Below.setCell ?_ (by simp) _ | refine Below.alloc ?_ (by simp) _))) (by decide) (by decide)).mono ?_); rintro e w5 ⟨rfl, b⟩
  have HW := Lib.hid (show Below w4.heap.size w4 w5 from Below.trans (by repeat (first | exact Below.refl _ _ | (with_reducible refine Below.drew ?_) | refine Below.setCell ?_ (by simp) _ | refine Below.alloc ?_ (by simp) _)) (b.mono (by simp <;> omega)))
  replace p0 := cell_below HW.out p0
  replace p1 := cell_below HW.out p1
  replace p2 := cell_below HW.out p2
  replace p3 := cell_below HW.out p3
  replace ps := Nat.lt_of_lt_of_le ps HW.out.size
  replace x0 := cell_below HW.out x0
  replace x1 := cell_below HW.out x1
  replace x2 := cell_below HW.out x2
  replace x3 := cell_below HW.out x3
  replace xs := Nat.lt_of_lt_of_le xs HW.out.size
  replace HM1 := Lib.hid (HM1.out.below HW.out)
  replace HM2 := Lib.hid (HM2.out.below HW.out)
  replace HM3 := Lib.hid (HM3.out.below HW.out)
  replace HB := Lib.hid (HB.out.trans (HW.out.mono HB.out.size))
  clear HW b
  go_wp2_with fail
  (with_reducible refine (new_at (r := [⟨0, 0, 0, true, [⟨2, 0, 0, 0⟩]⟩]) (p := ⟨2, 0, 1, 0⟩) (i := 0) 0 0 0 _ (bs_nil _) (l := [2]) (ks_one (by decide) (by simp)) (by decide) (by decide) (by decide) (by decide)).mono ?_); rintro e w6 ⟨v4, rfl, lay, b⟩
  have HM4 := Lib.hid lay.reads; clear lay
  have HW := Lib.hid (show Below w5.heap.size w5 w6 from Below.trans (by repeat (first | exact Below.refl _ _ | (with_reducible refine Below.drew ?_) | refine Below.setCell ?_ (by simp) _ | refine Below.alloc ?_ (by simp) _)) (b.mono (by simp <;> omega)))
  replace p0 := cell_below HW.out p0
  replace p1 := cell_below HW.out p1
  replace p2 := cell_below HW.out p2
  replace p3 := cell_below HW.out p3
  replace ps := Nat.lt_of_lt_of_le ps HW.out.size
  replace x0 := cell_below HW.out x0
  replace x1 := cell_below HW.out x1
  replace x2 := cell_below HW.out x2
  replace x3 := cell_below HW.out x3
  replace xs := Nat.lt_of_lt_of_le xs HW.out.size
  replace HM1 := Lib.hid (HM1.out.below HW.out)
  replace HM2 := Lib.hid (HM2.out.below HW.out)
  replace HM3 := Lib.hid (HM3.out.below HW.out)
  replace HB := Lib.hid (HB.out.trans (HW.out.mono HB.out.size))
  clear HW b
  go_wp2_with fail
  (with_reducible refine (new_at (r := [⟨0, 0, 0, true, [⟨2, 0, 0, 0⟩]⟩, ⟨0, 0, 1, true, [⟨1, 0, 0, 0⟩]⟩]) (p := ⟨2, 0, 2, 0⟩) (i := 0) 0 0 1 _ (HM4.out.below (by repeat (first | exact Below.refl _ _ | (with_reducible refine Below.drew ?_) | refine Below.setCell ?_ (by simp) _ | refine Below.alloc ?_ (by simp) _))) (l := [1]) (ks_one (by decide) (by simp)) (by decide) (by decide) (by decide) (by decide)).mono ?_); rintro e w7 ⟨v5, rfl, lay, b⟩
  have HM5 := Lib.hid lay.reads; clear lay
  have HW := Lib.hid (show Below w6.heap.size w6 w7 from Below.trans (by repeat (first | exact Below.refl _ _ | (with_reducible refine Below.drew ?_) | refine Below.setCell ?_ (by simp) _ | refine Below.alloc ?_ (by simp) _)) (b.mono (by simp <;> omega)))
  have q0 : w7.cell? ⟨w6.heap.size, 0, none⟩ = some (.int .u8 2) := cell_below b (by simp)
  have q1 : w7.cell? ⟨w6.heap.size, 1, none⟩ = some (.int .i64 0) := cell_below b (by simp)
  have q2 : w7.cell? ⟨w6.heap.size, 2, none⟩ = some (.int .i64 1) := cell_below b (by simp)
  have q3 : w7.cell? ⟨w6.heap.size, 3, none⟩ = some (.int .i64 0) := cell_below b (by simp)
  have qs : w6.heap.size < w7.heap.size := World.block_lt_of_cell? w7 _ q0
  replace p0 := cell_below HW.out p0
  replace p1 := cell_below HW.out p1
  replace p2 := cell_below HW.out p2
  replace p3 := cell_below HW.out p3
  replace ps := Nat.lt_of_lt_of_le ps HW.out.size
  replace x0 := cell_below HW.out x0
  replace x1 := cell_below HW.out x1
  replace x2 := cell_below HW.out x2
  replace x3 := cell_below HW.out x3
  replace xs := Nat.lt_of_lt_of_le xs HW.out.size
  replace HM1 := Lib.hid (HM1.out.below HW.out)
  replace HM2 := Lib.hid (HM2.out.below HW.out)
  replace HM3 := Lib.hid (HM3.out.below HW.out)
  replace HM4 := Lib.hid (HM4.out.below HW.out)
  replace HB := Lib.hid (HB.out.trans (HW.out.mono HB.out.size))
  clear HW b
  go_wp2_with fail
  (with_reducible refine (store_at (r := []) (i := 144) ⟨2, 0, 1, 0⟩ ⟨2, 0, 2, 0⟩ _ (HM5.out.below (by repeat (first | exact Below.refl _ _ | (with_reducible refine Below.drew ?_) | refine Below.setCell ?_ (by simp) _ | refine Below.alloc ?_ (by simp) _))) (by decide) (by decide)).mono ?_); rintro e w8 ⟨v6, rfl, lay, b⟩
  have HW := Lib.hid (show Below w7.heap.size w7 w8 from Below.trans (by repeat (first | exact Below.refl _ _ | (with_reducible refine Below.drew ?_) | refine Below.setCell ?_ (by simp) _ | refine Below.alloc ?_ (by simp) _)) (b.mono (by simp <;> omega)))
  replace p0 := cell_below HW.out p0
  replace p1 := cell_below HW.out p1
  replace p2 := cell_below HW.out p2
  replace p3 := cell_below HW.out p3
  replace ps := Nat.lt_of_lt_of_le ps HW.out.size
  replace x0 := cell_below HW.out x0
  replace x1 := cell_below HW.out x1
  replace x2 := cell_below HW.out x2
  replace x3 := cell_below HW.out x3
  replace xs := Nat.lt_of_lt_of_le xs HW.out.size
  replace q0 := cell_below HW.out q0
  replace q1 := cell_below HW.out q1
  replace q2 := cell_below HW.out q2
  replace q3 := cell_below HW.out q3
  replace qs := Nat.lt_of_lt_of_le qs HW.out.size
  replace HM1 := Lib.hid (HM1.out.below HW.out)
  replace HM2 := Lib.hid (HM2.out.below HW.out)
  replace HM3 := Lib.hid (HM3.out.below HW.out)
  replace HM4 := Lib.hid (HM4.out.below HW.out)
  replace HM5 := Lib.hid (HM5.out.below HW.out)
  replace HB := Lib.hid (HB.out.trans (HW.out.mono HB.out.size))
  clear HW b
  clear lay
  go_wp2_with fail
  have cu := upon_cell w8 w8.heap.size
  refine wp_region_upon (by kernel_rfl) (by kernel_rfl) ?_
  repeat (go_big_quiet_step (first | (go_at_call 20; exact calls_upon (number_any _ _))))
  refine wpQuiet_nil ?_
  intro W' hb'
  go_wp2
  go_ret
  exact ⟨rfl, HB.out.trans (hb'.mono HB.out.size)⟩

end Go.Proofs.Ytmelamlngjflkaa

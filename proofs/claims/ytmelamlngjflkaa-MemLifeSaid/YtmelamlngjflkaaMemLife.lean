/- MemLife: where life holds it does so behind New, Store, Free and Pop, and behind a Pop no cell of a block that is alive reaches its depth, at every memory, pointer, value and depth; the call answers true, and what is handed in reads as before. No condition. -/
import Derived.Test.YtmelamlngjflkaaRows
import Derived.WalkKit
import Derived.ProofKit
import Derived.OpenShut
import Derived.Below
import Derived.Outline
import Derived.LoopTactic
import Derived.Test.YtmelamlngjflkaaRep
import Derived.Test.YtmelamlngjflkaaU
import Derived.Test.YtmelamlngjflkaaQ
import Derived.Test.YtmelamlngjflkaaO
import Derived.Test.YtmelamlngjflkaaT2
import Derived.Lib.Hide
import Derived.RegionTactic
import Derived.BigRegion
import Derived.Deep.RegionWith
import Derived.Test.YtmelamlngjflkaaQ3
import Derived.Deep.CutRange
namespace Go.Proofs.Ytmelamlngjflkaa.memLife
open Go.Joins Go.ChangeShapes Go.WideShapes Go.ChangeAt Go.RowKit Go.Deep

theorem great_at {m : List Blk} {v : Value} {b : Bool} (h : greatB m = b) (w : World) (hm : BsAt w v m) : Calls Try.prog 13 #[v] w fun e w' => e = .returned (.bool b) ∧ w = w' := by
  subst h
  exact great_any w hm
theorem holds_at {m : List Blk} {v : Value} {b : Bool} {i : Int} (w : World) (hm : BsAt w v m) (hb : holdsB m = b) (hi : holdsI m = i) : Calls Try.prog 12 #[v] w fun e w' => e = .returned (.tuple #[.bool b, .int .i64 i]) ∧ Below w.heap.size w w' := by
  subst hb hi
  exact holds_any w hm
theorem depth_at {m : List Blk} {v : Value} {x i : Int} (p : Val) (w : World) (hm : BsAt w v m) (hr : depthV m p = x) (hi : depthI m p = i) :
    Calls Try.prog 18 #[v, .agg #[.int .u8 p.k, .int .i64 p.n, .int .i64 p.b, .int .i64 p.o]] w fun e w' => e = .returned (.tuple #[.int .i64 x, .int .i64 i]) ∧ Below w.heap.size w w' := by
  subst hr hi
  exact depth_any p w hm

set_option maxRecDepth 100000 in
set_option maxHeartbeats 4000000 in
theorem core {m : List Blk} {v : Value} (p x : Val) (d : Int) (w : World) (hm : BsAt w v m) : Calls Try.prog 3 #[v, .agg #[.int .u8 p.k, .int .i64 p.n, .int .i64 p.b, .int .i64 p.o], .agg #[.int .u8 x.k, .int .i64 x.n, .int .i64 x.b, .int .i64 x.o], .int .i64 d] w fun e w' => e = .returned (.bool true) ∧ Below w.heap.size w w' := by
  have HM := Lib.hid hm; clear hm
  go_enter Try.func3, Try.ntmps3
  have HB : Hid (Below w.heap.size w w) := Lib.hid (Below.refl _ _)
  go_wp2_with fail
  (with_reducible refine (alive_any _).mono ?_); rintro e w1 ⟨rfl, b⟩
  have HW := Lib.hid (show Below w.heap.size w w1 from Below.trans (by repeat (first | exact Below.refl _ _ | (with_reducible refine Below.drew ?_) | refine Below.setCell ?_ (by simp) _ | refine Below.alloc ?_ (by simp <;> omega) _)) (b.mono (by simp <;> omega)))
  have p0 : w1.cell? ⟨w.heap.size, 0, none⟩ = some (.int .u8 p.k) := cell_below b (by first | (simp; done) | go_simp)
  have p1 : w1.cell? ⟨w.heap.size, 1, none⟩ = some (.int .i64 p.n) := cell_below b (by first | (simp; done) | go_simp)
  have p2 : w1.cell? ⟨w.heap.size, 2, none⟩ = some (.int .i64 p.b) := cell_below b (by first | (simp; done) | go_simp)
  have p3 : w1.cell? ⟨w.heap.size, 3, none⟩ = some (.int .i64 p.o) := cell_below b (by first | (simp; done) | go_simp)
  have ps : w.heap.size < w1.heap.size := World.block_lt_of_cell? w1 _ p0
  have x0 : w1.cell? ⟨w.heap.size + 1, 0, none⟩ = some (.int .u8 x.k) := cell_below b (by first | (simp; done) | go_simp)
  have x1 : w1.cell? ⟨w.heap.size + 1, 1, none⟩ = some (.int .i64 x.n) := cell_below b (by first | (simp; done) | go_simp)
  have x2 : w1.cell? ⟨w.heap.size + 1, 2, none⟩ = some (.int .i64 x.b) := cell_below b (by first | (simp; done) | go_simp)
  have x3 : w1.cell? ⟨w.heap.size + 1, 3, none⟩ = some (.int .i64 x.o) := cell_below b (by first | (simp; done) | go_simp)
  have xs : w.heap.size + 1 < w1.heap.size := World.block_lt_of_cell? w1 _ x0
  replace HM := Lib.hid (HM.out.below HW.out)
  replace HB := Lib.hid (HB.out.trans (HW.out.mono HB.out.size))
  clear HW b
  by_cases hh : mayM m = true ∧ lifeB m = true
  · have HY := Lib.hid hh.1
    have HL := Lib.hid hh.2
    clear hh
    go_wp2_with fail
    (with_reducible refine (holds_at (b := true) (i := 0) _ (HM.out.below (by repeat (first | exact Below.refl _ _ | (with_reducible refine Below.drew ?_) | refine Below.setCell ?_ (by simp) _ | refine Below.alloc ?_ (by simp <;> omega) _))) (holds_both HY.out HL.out) (by rw [holdsI, HY.out, if_pos rfl])).mono ?_); rintro e w2 ⟨rfl, b⟩
    have HW := Lib.hid (show Below w1.heap.size w1 w2 from Below.trans (by repeat (first | exact Below.refl _ _ | (with_reducible refine Below.drew ?_) | refine Below.setCell ?_ (by simp) _ | refine Below.alloc ?_ (by simp <;> omega) _)) (b.mono (by simp <;> omega)))
    replace p0 := cell_below HW.out p0
    replace p1 := cell_below HW.out p1
    replace p2 := cell_below HW.out p2
    replace p3 := cell_below HW.out p3
    replace ps := Nat.lt_of_lt_of_le ps HW.out.size
    replace x0 := cell_below HW.out x0
    replace x1 := cell_below HW.out x1
    replace x2 := cell_below HW.out x2
    replace x3 := cell_below HW.out x3
    replace xs := Nat.lt_of_lt_of_le xs HW.out.size
    replace HM := Lib.hid (HM.out.below HW.out)
    replace HB := Lib.hid (HB.out.trans (HW.out.mono HB.out.size))
    clear HW b
    cases hg : greatB m
    · go_wp2_with fail
      (with_reducible refine (great_at hg _ (HM.out.below (by repeat (first | exact Below.refl _ _ | (with_reducible refine Below.drew ?_) | refine Below.setCell ?_ (by simp) _ | refine Below.alloc ?_ (by simp <;> omega) _)))).mono ?_); rintro e _ ⟨rfl, rfl⟩
      go_wp2_with fail
      (with_reducible refine (store_at (r := storeR m p x) (i := storeI m p x) p x _ (HM.out.below (by repeat (first | exact Below.refl _ _ | (with_reducible refine Below.drew ?_) | refine Below.setCell ?_ (by simp) _ | refine Below.alloc ?_ (by simp <;> omega) _))) rfl rfl).mono ?_); rintro e w3 ⟨v1, rfl, lay, b⟩
      have H1 := Lib.hid lay.reads; clear lay
      have HW := Lib.hid (show Below w2.heap.size w2 w3 from Below.trans (by repeat (first | exact Below.refl _ _ | (with_reducible refine Below.drew ?_) | refine Below.setCell ?_ (by simp) _ | refine Below.alloc ?_ (by simp <;> omega) _)) (b.mono (by simp <;> omega)))
      replace p0 := cell_below HW.out p0
      replace p1 := cell_below HW.out p1
      replace p2 := cell_below HW.out p2
      replace p3 := cell_below HW.out p3
      replace ps := Nat.lt_of_lt_of_le ps HW.out.size
      replace x0 := cell_below HW.out x0
      replace x1 := cell_below HW.out x1
      replace x2 := cell_below HW.out x2
      replace x3 := cell_below HW.out x3
      replace xs := Nat.lt_of_lt_of_le xs HW.out.size
      replace HM := Lib.hid (HM.out.below HW.out)
      replace HB := Lib.hid (HB.out.trans (HW.out.mono HB.out.size))
      clear HW b
      go_wp2_with fail
      (with_reducible refine (free_at (r := freeR m p) (i := freeI m p) p _ (HM.out.below (by repeat (first | exact Below.refl _ _ | (with_reducible refine Below.drew ?_) | refine Below.setCell ?_ (by simp) _ | refine Below.alloc ?_ (by simp <;> omega) _))) rfl rfl).mono ?_); rintro e w4 ⟨v2, rfl, lay, b⟩
      have H2 := Lib.hid lay.reads; clear lay
      have HW := Lib.hid (show Below w3.heap.size w3 w4 from Below.trans (by repeat (first | exact Below.refl _ _ | (with_reducible refine Below.drew ?_) | refine Below.setCell ?_ (by simp) _ | refine Below.alloc ?_ (by simp <;> omega) _)) (b.mono (by simp <;> omega)))
      replace p0 := cell_below HW.out p0
      replace p1 := cell_below HW.out p1
      replace p2 := cell_below HW.out p2
      replace p3 := cell_below HW.out p3
      replace ps := Nat.lt_of_lt_of_le ps HW.out.size
      replace x0 := cell_below HW.out x0
      replace x1 := cell_below HW.out x1
      replace x2 := cell_below HW.out x2
      replace x3 := cell_below HW.out x3
      replace xs := Nat.lt_of_lt_of_le xs HW.out.size
      replace HM := Lib.hid (HM.out.below HW.out)
      replace H1 := Lib.hid (H1.out.below HW.out)
      replace HB := Lib.hid (HB.out.trans (HW.out.mono HB.out.size))
      clear HW b
      go_wp2_with fail
      (with_reducible refine (new_at (r := newR m 0 0 3 [2, 1]) (p := newV m 0 0 3 [2, 1]) (i := newI m 0 0 3 [2, 1]) 0 0 3 _ (HM.out.below (by repeat (first | exact Below.refl _ _ | (with_reducible refine Below.drew ?_) | refine Below.setCell ?_ (by simp) _ | refine Below.alloc ?_ (by simp <;> omega) _))) (l := [2, 1]) (ks_two (by decide) (by decide) (by simp) (by simp)) (by decide) rfl rfl rfl).mono ?_); rintro e w5 ⟨v3, rfl, lay, b⟩
      have H3 := Lib.hid lay.reads; clear lay
      have HW := Lib.hid (show Below w4.heap.size w4 w5 from Below.trans (by repeat (first | exact Below.refl _ _ | (with_reducible refine Below.drew ?_) | refine Below.setCell ?_ (by simp) _ | refine Below.alloc ?_ (by simp <;> omega) _)) (b.mono (by simp <;> omega)))
      replace p0 := cell_below HW.out p0
      replace p1 := cell_below HW.out p1
      replace p2 := cell_below HW.out p2
      replace p3 := cell_below HW.out p3
      replace ps := Nat.lt_of_lt_of_le ps HW.out.size
      replace x0 := cell_below HW.out x0
      replace x1 := cell_below HW.out x1
      replace x2 := cell_below HW.out x2
      replace x3 := cell_below HW.out x3
      replace xs := Nat.lt_of_lt_of_le xs HW.out.size
      replace HM := Lib.hid (HM.out.below HW.out)
      replace H1 := Lib.hid (H1.out.below HW.out)
      replace H2 := Lib.hid (H2.out.below HW.out)
      replace HB := Lib.hid (HB.out.trans (HW.out.mono HB.out.size))
      clear HW b
      by_cases hp : popI m d = 0
      · have HP := Lib.hid hp
        go_wp2_with fail
        (with_reducible refine (pop_at (r := (m.map (popB d))) (i := 0) d _ (HM.out.below (by repeat (first | exact Below.refl _ _ | (with_reducible refine Below.drew ?_) | refine Below.setCell ?_ (by simp) _ | refine Below.alloc ?_ (by simp <;> omega) _))) (by rw [popR, if_pos hp]) hp).mono ?_); rintro e w6 ⟨v4, rfl, lay, b⟩
        have HD := Lib.hid lay.reads
        obtain ⟨A4, c4, e1, _⟩ := lay.len; rw [List.length_map] at e1; subst e1; clear lay
        have HW := Lib.hid (show Below w5.heap.size w5 w6 from Below.trans (by repeat (first | exact Below.refl _ _ | (with_reducible refine Below.drew ?_) | refine Below.setCell ?_ (by simp) _ | refine Below.alloc ?_ (by simp <;> omega) _)) (b.mono (by simp <;> omega)))
        have n0 : w6.cell? ⟨w5.heap.size, 0, none⟩ = some (.int .u8 (newV m 0 0 3 [2, 1]).k) := cell_below b (by first | (simp; done) | go_simp)
        have n1 : w6.cell? ⟨w5.heap.size, 1, none⟩ = some (.int .i64 (newV m 0 0 3 [2, 1]).n) := cell_below b (by first | (simp; done) | go_simp)
        have n2 : w6.cell? ⟨w5.heap.size, 2, none⟩ = some (.int .i64 (newV m 0 0 3 [2, 1]).b) := cell_below b (by first | (simp; done) | go_simp)
        have n3 : w6.cell? ⟨w5.heap.size, 3, none⟩ = some (.int .i64 (newV m 0 0 3 [2, 1]).o) := cell_below b (by first | (simp; done) | go_simp)
        have ns : w5.heap.size < w6.heap.size := World.block_lt_of_cell? w6 _ n0
        replace p0 := cell_below HW.out p0
        replace p1 := cell_below HW.out p1
        replace p2 := cell_below HW.out p2
        replace p3 := cell_below HW.out p3
        replace ps := Nat.lt_of_lt_of_le ps HW.out.size
        replace x0 := cell_below HW.out x0
        replace x1 := cell_below HW.out x1
        replace x2 := cell_below HW.out x2
        replace x3 := cell_below HW.out x3
        replace xs := Nat.lt_of_lt_of_le xs HW.out.size
        replace HM := Lib.hid (HM.out.below HW.out)
        replace H1 := Lib.hid (H1.out.below HW.out)
        replace H2 := Lib.hid (H2.out.below HW.out)
        replace H3 := Lib.hid (H3.out.below HW.out)
        replace HB := Lib.hid (HB.out.trans (HW.out.mono HB.out.size))
        clear HW b
        go_wp2_with fail
        (with_reducible refine (holds_at (b := true) (i := holdsI (storeR m p x)) _ (H1.out.below (by repeat (first | exact Below.refl _ _ | (with_reducible refine Below.drew ?_) | refine Below.setCell ?_ (by simp) _ | refine Below.alloc ?_ (by simp <;> omega) _))) (store_holds HL.out p x) rfl).mono ?_); rintro e w7 ⟨rfl, b⟩
        have HW := Lib.hid (show Below w6.heap.size w6 w7 from Below.trans (by repeat (first | exact Below.refl _ _ | (with_reducible refine Below.drew ?_) | refine Below.setCell ?_ (by simp) _ | refine Below.alloc ?_ (by simp <;> omega) _)) (b.mono (by simp <;> omega)))
        replace p0 := cell_below HW.out p0
        replace p1 := cell_below HW.out p1
        replace p2 := cell_below HW.out p2
        replace p3 := cell_below HW.out p3
        replace ps := Nat.lt_of_lt_of_le ps HW.out.size
        replace x0 := cell_below HW.out x0
        replace x1 := cell_below HW.out x1
        replace x2 := cell_below HW.out x2
        replace x3 := cell_below HW.out x3
        replace xs := Nat.lt_of_lt_of_le xs HW.out.size
        replace n0 := cell_below HW.out n0
        replace n1 := cell_below HW.out n1
        replace n2 := cell_below HW.out n2
        replace n3 := cell_below HW.out n3
        replace ns := Nat.lt_of_lt_of_le ns HW.out.size
        replace HM := Lib.hid (HM.out.below HW.out)
        replace H1 := Lib.hid (H1.out.below HW.out)
        replace H2 := Lib.hid (H2.out.below HW.out)
        replace H3 := Lib.hid (H3.out.below HW.out)
        replace HD := Lib.hid (HD.out.below HW.out)
        replace HB := Lib.hid (HB.out.trans (HW.out.mono HB.out.size))
        clear HW b
        go_wp2_with fail
        (with_reducible refine (holds_at (b := true) (i := holdsI (freeR m p)) _ (H2.out.below (by repeat (first | exact Below.refl _ _ | (with_reducible refine Below.drew ?_) | refine Below.setCell ?_ (by simp) _ | refine Below.alloc ?_ (by simp <;> omega) _))) (free_holds HL.out p) rfl).mono ?_); rintro e w8 ⟨rfl, b⟩
        have HW := Lib.hid (show Below w7.heap.size w7 w8 from Below.trans (by repeat (first | exact Below.refl _ _ | (with_reducible refine Below.drew ?_) | refine Below.setCell ?_ (by simp) _ | refine Below.alloc ?_ (by simp <;> omega) _)) (b.mono (by simp <;> omega)))
        replace p0 := cell_below HW.out p0
        replace p1 := cell_below HW.out p1
        replace p2 := cell_below HW.out p2
        replace p3 := cell_below HW.out p3
        replace ps := Nat.lt_of_lt_of_le ps HW.out.size
        replace x0 := cell_below HW.out x0
        replace x1 := cell_below HW.out x1
        replace x2 := cell_below HW.out x2
        replace x3 := cell_below HW.out x3
        replace xs := Nat.lt_of_lt_of_le xs HW.out.size
        replace n0 := cell_below HW.out n0
        replace n1 := cell_below HW.out n1
        replace n2 := cell_below HW.out n2
        replace n3 := cell_below HW.out n3
        replace ns := Nat.lt_of_lt_of_le ns HW.out.size
        replace HM := Lib.hid (HM.out.below HW.out)
        replace H1 := Lib.hid (H1.out.below HW.out)
        replace H2 := Lib.hid (H2.out.below HW.out)
        replace H3 := Lib.hid (H3.out.below HW.out)
        replace HD := Lib.hid (HD.out.below HW.out)
        replace HB := Lib.hid (HB.out.trans (HW.out.mono HB.out.size))
        clear HW b
        go_wp2_with fail
        (with_reducible refine (holds_at (b := true) (i := holdsI (newR m 0 0 3 [2, 1])) _ (H3.out.below (by repeat (first | exact Below.refl _ _ | (with_reducible refine Below.drew ?_) | refine Below.setCell ?_ (by simp) _ | refine Below.alloc ?_ (by simp <;> omega) _))) (new_holds HL.out 0 0 3 [2, 1]) rfl).mono ?_); rintro e w9 ⟨rfl, b⟩
        have HW := Lib.hid (show Below w8.heap.size w8 w9 from Below.trans (by repeat (first | exact Below.refl _ _ | (with_reducible refine Below.drew ?_) | refine Below.setCell ?_ (by simp) _ | refine Below.alloc ?_ (by simp <;> omega) _)) (b.mono (by simp <;> omega)))
        replace p0 := cell_below HW.out p0
        replace p1 := cell_below HW.out p1
        replace p2 := cell_below HW.out p2
        replace p3 := cell_below HW.out p3
        replace ps := Nat.lt_of_lt_of_le ps HW.out.size
        replace x0 := cell_below HW.out x0
        replace x1 := cell_below HW.out x1
        replace x2 := cell_below HW.out x2
        replace x3 := cell_below HW.out x3
        replace xs := Nat.lt_of_lt_of_le xs HW.out.size
        replace n0 := cell_below HW.out n0
        replace n1 := cell_below HW.out n1
        replace n2 := cell_below HW.out n2
        replace n3 := cell_below HW.out n3
        replace ns := Nat.lt_of_lt_of_le ns HW.out.size
        replace HM := Lib.hid (HM.out.below HW.out)
        replace H1 := Lib.hid (H1.out.below HW.out)
        replace H2 := Lib.hid (H2.out.below HW.out)
        replace H3 := Lib.hid (H3.out.below HW.out)
        replace HD := Lib.hid (HD.out.below HW.out)
        replace HB := Lib.hid (HB.out.trans (HW.out.mono HB.out.size))
        clear HW b
        go_wp2_with fail
        (with_reducible refine (holds_at (b := true) (i := holdsI (m.map (popB d))) _ (HD.out.below (by repeat (first | exact Below.refl _ _ | (with_reducible refine Below.drew ?_) | refine Below.setCell ?_ (by simp) _ | refine Below.alloc ?_ (by simp <;> omega) _))) (by have := pop_holds HL.out d; rwa [popR, if_pos HP.out] at this) rfl).mono ?_); rintro e w10 ⟨rfl, b⟩
        have HW := Lib.hid (show Below w9.heap.size w9 w10 from Below.trans (by repeat (first | exact Below.refl _ _ | (with_reducible refine Below.drew ?_) | refine Below.setCell ?_ (by simp) _ | refine Below.alloc ?_ (by simp <;> omega) _)) (b.mono (by simp <;> omega)))
        replace p0 := cell_below HW.out p0
        replace p1 := cell_below HW.out p1
        replace p2 := cell_below HW.out p2
        replace p3 := cell_below HW.out p3
        replace ps := Nat.lt_of_lt_of_le ps HW.out.size
        replace x0 := cell_below HW.out x0
        replace x1 := cell_below HW.out x1
        replace x2 := cell_below HW.out x2
        replace x3 := cell_below HW.out x3
        replace xs := Nat.lt_of_lt_of_le xs HW.out.size
        replace n0 := cell_below HW.out n0
        replace n1 := cell_below HW.out n1
        replace n2 := cell_below HW.out n2
        replace n3 := cell_below HW.out n3
        replace ns := Nat.lt_of_lt_of_le ns HW.out.size
        replace HM := Lib.hid (HM.out.below HW.out)
        replace H1 := Lib.hid (H1.out.below HW.out)
        replace H2 := Lib.hid (H2.out.below HW.out)
        replace H3 := Lib.hid (H3.out.below HW.out)
        replace HD := Lib.hid (HD.out.below HW.out)
        replace HB := Lib.hid (HB.out.trans (HW.out.mono HB.out.size))
        clear HW b
        go_upto_region 13 with fail
        go_cut [129] from 100 to 129 (fun s wx => s = .bool false ∧ wx = w10)
        case first =>
          cases h1 : (storeI m p x == 0) <;> cases h2 : (freeI m p == 0) <;> cases h3 : (newI m 0 0 3 [2, 1] == 0)
          all_goals
            go_wp2
            go_meet
            exact ⟨rfl, rfl⟩
        case rest =>
          obtain ⟨rfl, rfl⟩ := hcut
          go_wp2_with fail
          go_loopw [29, 30, 31, 32] (fun s29 _ _ _ wr => ∃ k : Nat, k ≤ m.length ∧ s29 = .int .i64 k ∧ Below wc.heap.size wc wr) (fun s29 _ _ _ _ => m.length - (intOf s29).toNat)
          case atStart => exact ⟨0, Nat.zero_le _, rfl, Below.refl _ _⟩
          case round =>
            obtain ⟨k, hk, rfl, hb⟩ := hrel
            have HR := Lib.hid hb; clear hb
            by_cases hlt : k < m.length
            · have HLT := Lib.hid hlt
              have hml : m.length ≤ 9223372036854775807 := by obtain ⟨_, _, _, h, _⟩ := HM.out; exact h
              have hltD : k < (m.map (popB d)).length := by simpa using hlt
              have HDr := Lib.hid (HD.out.below HR.out)
              obtain ⟨b, hbk⟩ : ∃ b, (m.map (popB d))[k]? = some b := ⟨_, List.getElem?_eq_getElem hltD⟩
              have HMB := Lib.hid (List.mem_of_getElem? hbk)
              obtain ⟨g, o, rfl, hg, q0, q1, q2, q3, hv, q4, h5⟩ := HDr.out.get hbk
              obtain ⟨A5, c5, rfl, _, hx5⟩ := h5
              have HX5 := Lib.hid hx5; clear hx5 hbk hltD q0 q1
              obtain ⟨wo, rfl⟩ : ∃ wo : World, wo = wr := ⟨_, rfl⟩
              cases hal : b.alive
              · rw [hal] at q3
                go_wp2_with fail
                go_loopw [30, 31, 32] (fun s30 _ _ w2 => s30 = .int .i64 0 ∧ Below wo.heap.size wo w2) (fun _ _ _ _ => 0)
                case atStart => exact ⟨rfl, Below.refl _ _⟩
                case round =>
                  obtain ⟨rfl, hb2⟩ := hrel
                  have HR2 := Lib.hid (HR.out.trans (hb2.mono HR.out.size))
                  have r3 := cell_below hb2 q3
                  have r4 := cell_below hb2 q4
                  have rg := Nat.lt_of_lt_of_le hg hb2.size
                  clear hb2
                  go_wp2
                  all_goals
                    go_roundw
                    case rel => exact ⟨k + 1, HLT.out, by go_num, HR2.out⟩
                    case measure => have := HLT.out; simp [intOf]; omega
              · have hdep : ¬ d ≤ b.dep := by have := pop_dep HMB.out hal; omega
                have HAL := Lib.hid hal
                rw [hal] at q3
                clear hal
                go_wp2_with fail
                go_loopw [30, 31, 32] (fun s30 _ _ w2 => ∃ n : Nat, n ≤ b.cells.length ∧ s30 = .int .i64 n ∧ Below wo.heap.size wo w2) (fun s30 _ _ _ => b.cells.length - (intOf s30).toNat)
                case atStart => exact ⟨0, Nat.zero_le _, rfl, Below.refl _ _⟩
                case round =>
                  obtain ⟨n, hn, rfl, hb2⟩ := hrel
                  have HR2 := Lib.hid (HR.out.trans (hb2.mono HR.out.size))
                  have HB2 := Lib.hid hb2
                  have r3 := cell_below hb2 q3
                  have r4 := cell_below hb2 q4
                  have rg := Nat.lt_of_lt_of_le hg hb2.size
                  have HD2 := Lib.hid (HDr.out.below hb2)
                  clear hb2
                  by_cases hnl : n < b.cells.length
                  · obtain ⟨x, hxn⟩ : ∃ x, b.cells[n]? = some x := ⟨_, List.getElem?_eq_getElem hnl⟩
                    obtain ⟨gi, oi, rfl, t0, t1, t2, t3⟩ := HX5.out n x hxn
                    obtain ⟨e1, e2⟩ := pop_deep HP.out HL.out HMB.out HAL.out (List.mem_of_getElem? hxn)
                    have e2' : ¬ d ≤ depthV (m.map (popB d)) x := by omega
                    have tg : gi < wr.heap.size := Nat.lt_of_lt_of_le (World.block_lt_of_cell? wo _ t0) HB2.out.size
                    replace t0 := cell_below HB2.out t0
                    replace t1 := cell_below HB2.out t1
                    replace t2 := cell_below HB2.out t2
                    replace t3 := cell_below HB2.out t3
                    clear e2 hxn
                    go_wp2_with fail
                    (with_reducible refine (depth_at (x := depthV (m.map (popB d)) x) (i := 0) x _ HD2.out rfl e1).mono ?_); rintro e w3 ⟨rfl, b3⟩
                    have HB3 := Lib.hid (HB2.out.trans (b3.mono HB2.out.size))
                    clear b3
                    go_wp2
                    go_roundw
                    case rel => exact ⟨n + 1, by omega, by go_num, HB3.out⟩
                    case measure => simp [intOf]; omega
                  · have : n = b.cells.length := by omega
                    subst this
                    go_wp2
                    go_roundw
                    case rel => exact ⟨k + 1, HLT.out, by go_num, HR2.out⟩
                    case measure => have := HLT.out; simp [intOf]; omega
            · have : k = m.length := by omega
              subst this
              go_wp2
              go_ret
              exact ⟨rfl, HB.out.trans (HR.out.mono HB.out.size)⟩
      · generalize hi : popI m d = i at hp
        have hr : popR m d = [] := by rw [popR, hi, if_neg hp]
        have d4 : (i == 0) = false := by simpa using hp
        clear hp
        go_wp2_with fail
        (with_reducible refine (pop_at (r := []) (i := i) d _ (HM.out.below (by repeat (first | exact Below.refl _ _ | (with_reducible refine Below.drew ?_) | refine Below.setCell ?_ (by simp) _ | refine Below.alloc ?_ (by simp <;> omega) _))) hr hi).mono ?_); rintro e w6 ⟨v4, rfl, lay, b⟩
        have HD := Lib.hid lay.reads
        obtain ⟨A4, c4, e1, _⟩ := lay.len; rw [List.length_nil] at e1; subst e1; clear lay
        have HW := Lib.hid (show Below w5.heap.size w5 w6 from Below.trans (by repeat (first | exact Below.refl _ _ | (with_reducible refine Below.drew ?_) | refine Below.setCell ?_ (by simp) _ | refine Below.alloc ?_ (by simp <;> omega) _)) (b.mono (by simp <;> omega)))
        have n0 : w6.cell? ⟨w5.heap.size, 0, none⟩ = some (.int .u8 (newV m 0 0 3 [2, 1]).k) := cell_below b (by first | (simp; done) | go_simp)
        have n1 : w6.cell? ⟨w5.heap.size, 1, none⟩ = some (.int .i64 (newV m 0 0 3 [2, 1]).n) := cell_below b (by first | (simp; done) | go_simp)
        have n2 : w6.cell? ⟨w5.heap.size, 2, none⟩ = some (.int .i64 (newV m 0 0 3 [2, 1]).b) := cell_below b (by first | (simp; done) | go_simp)
        have n3 : w6.cell? ⟨w5.heap.size, 3, none⟩ = some (.int .i64 (newV m 0 0 3 [2, 1]).o) := cell_below b (by first | (simp; done) | go_simp)
        have ns : w5.heap.size < w6.heap.size := World.block_lt_of_cell? w6 _ n0
        replace p0 := cell_below HW.out p0
        replace p1 := cell_below HW.out p1
        replace p2 := cell_below HW.out p2
        replace p3 := cell_below HW.out p3
        replace ps := Nat.lt_of_lt_of_le ps HW.out.size
        replace x0 := cell_below HW.out x0
        replace x1 := cell_below HW.out x1
        replace x2 := cell_below HW.out x2
        replace x3 := cell_below HW.out x3
        replace xs := Nat.lt_of_lt_of_le xs HW.out.size
        replace HM := Lib.hid (HM.out.below HW.out)
        replace H1 := Lib.hid (H1.out.below HW.out)
        replace H2 := Lib.hid (H2.out.below HW.out)
        replace H3 := Lib.hid (H3.out.below HW.out)
        replace HB := Lib.hid (HB.out.trans (HW.out.mono HB.out.size))
        clear HW b
        go_wp2_with fail
        (with_reducible refine (holds_at (b := true) (i := holdsI (storeR m p x)) _ (H1.out.below (by repeat (first | exact Below.refl _ _ | (with_reducible refine Below.drew ?_) | refine Below.setCell ?_ (by simp) _ | refine Below.alloc ?_ (by simp <;> omega) _))) (store_holds HL.out p x) rfl).mono ?_); rintro e w7 ⟨rfl, b⟩
        have HW := Lib.hid (show Below w6.heap.size w6 w7 from Below.trans (by repeat (first | exact Below.refl _ _ | (with_reducible refine Below.drew ?_) | refine Below.setCell ?_ (by simp) _ | refine Below.alloc ?_ (by simp <;> omega) _)) (b.mono (by simp <;> omega)))
        replace p0 := cell_below HW.out p0
        replace p1 := cell_below HW.out p1
        replace p2 := cell_below HW.out p2
        replace p3 := cell_below HW.out p3
        replace ps := Nat.lt_of_lt_of_le ps HW.out.size
        replace x0 := cell_below HW.out x0
        replace x1 := cell_below HW.out x1
        replace x2 := cell_below HW.out x2
        replace x3 := cell_below HW.out x3
        replace xs := Nat.lt_of_lt_of_le xs HW.out.size
        replace n0 := cell_below HW.out n0
        replace n1 := cell_below HW.out n1
        replace n2 := cell_below HW.out n2
        replace n3 := cell_below HW.out n3
        replace ns := Nat.lt_of_lt_of_le ns HW.out.size
        replace HM := Lib.hid (HM.out.below HW.out)
        replace H1 := Lib.hid (H1.out.below HW.out)
        replace H2 := Lib.hid (H2.out.below HW.out)
        replace H3 := Lib.hid (H3.out.below HW.out)
        replace HD := Lib.hid (HD.out.below HW.out)
        replace HB := Lib.hid (HB.out.trans (HW.out.mono HB.out.size))
        clear HW b
        go_wp2_with fail
        (with_reducible refine (holds_at (b := true) (i := holdsI (freeR m p)) _ (H2.out.below (by repeat (first | exact Below.refl _ _ | (with_reducible refine Below.drew ?_) | refine Below.setCell ?_ (by simp) _ | refine Below.alloc ?_ (by simp <;> omega) _))) (free_holds HL.out p) rfl).mono ?_); rintro e w8 ⟨rfl, b⟩
        have HW := Lib.hid (show Below w7.heap.size w7 w8 from Below.trans (by repeat (first | exact Below.refl _ _ | (with_reducible refine Below.drew ?_) | refine Below.setCell ?_ (by simp) _ | refine Below.alloc ?_ (by simp <;> omega) _)) (b.mono (by simp <;> omega)))
        replace p0 := cell_below HW.out p0
        replace p1 := cell_below HW.out p1
        replace p2 := cell_below HW.out p2
        replace p3 := cell_below HW.out p3
        replace ps := Nat.lt_of_lt_of_le ps HW.out.size
        replace x0 := cell_below HW.out x0
        replace x1 := cell_below HW.out x1
        replace x2 := cell_below HW.out x2
        replace x3 := cell_below HW.out x3
        replace xs := Nat.lt_of_lt_of_le xs HW.out.size
        replace n0 := cell_below HW.out n0
        replace n1 := cell_below HW.out n1
        replace n2 := cell_below HW.out n2
        replace n3 := cell_below HW.out n3
        replace ns := Nat.lt_of_lt_of_le ns HW.out.size
        replace HM := Lib.hid (HM.out.below HW.out)
        replace H1 := Lib.hid (H1.out.below HW.out)
        replace H2 := Lib.hid (H2.out.below HW.out)
        replace H3 := Lib.hid (H3.out.below HW.out)
        replace HD := Lib.hid (HD.out.below HW.out)
        replace HB := Lib.hid (HB.out.trans (HW.out.mono HB.out.size))
        clear HW b
        go_wp2_with fail
        (with_reducible refine (holds_at (b := true) (i := holdsI (newR m 0 0 3 [2, 1])) _ (H3.out.below (by repeat (first | exact Below.refl _ _ | (with_reducible refine Below.drew ?_) | refine Below.setCell ?_ (by simp) _ | refine Below.alloc ?_ (by simp <;> omega) _))) (new_holds HL.out 0 0 3 [2, 1]) rfl).mono ?_); rintro e w9 ⟨rfl, b⟩
        have HW := Lib.hid (show Below w8.heap.size w8 w9 from Below.trans (by repeat (first | exact Below.refl _ _ | (with_reducible refine Below.drew ?_) | refine Below.setCell ?_ (by simp) _ | refine Below.alloc ?_ (by simp <;> omega) _)) (b.mono (by simp <;> omega)))
        replace p0 := cell_below HW.out p0
        replace p1 := cell_below HW.out p1
        replace p2 := cell_below HW.out p2
        replace p3 := cell_below HW.out p3
        replace ps := Nat.lt_of_lt_of_le ps HW.out.size
        replace x0 := cell_below HW.out x0
        replace x1 := cell_below HW.out x1
        replace x2 := cell_below HW.out x2
        replace x3 := cell_below HW.out x3
        replace xs := Nat.lt_of_lt_of_le xs HW.out.size
        replace n0 := cell_below HW.out n0
        replace n1 := cell_below HW.out n1
        replace n2 := cell_below HW.out n2
        replace n3 := cell_below HW.out n3
        replace ns := Nat.lt_of_lt_of_le ns HW.out.size
        replace HM := Lib.hid (HM.out.below HW.out)
        replace H1 := Lib.hid (H1.out.below HW.out)
        replace H2 := Lib.hid (H2.out.below HW.out)
        replace H3 := Lib.hid (H3.out.below HW.out)
        replace HD := Lib.hid (HD.out.below HW.out)
        replace HB := Lib.hid (HB.out.trans (HW.out.mono HB.out.size))
        clear HW b
        go_wp2_with fail
        (with_reducible refine (holds_at (b := true) (i := 0) _ (HD.out.below (by repeat (first | exact Below.refl _ _ | (with_reducible refine Below.drew ?_) | refine Below.setCell ?_ (by simp) _ | refine Below.alloc ?_ (by simp <;> omega) _))) holds_nil rfl).mono ?_); rintro e w10 ⟨rfl, b⟩
        have HW := Lib.hid (show Below w9.heap.size w9 w10 from Below.trans (by repeat (first | exact Below.refl _ _ | (with_reducible refine Below.drew ?_) | refine Below.setCell ?_ (by simp) _ | refine Below.alloc ?_ (by simp <;> omega) _)) (b.mono (by simp <;> omega)))
        replace p0 := cell_below HW.out p0
        replace p1 := cell_below HW.out p1
        replace p2 := cell_below HW.out p2
        replace p3 := cell_below HW.out p3
        replace ps := Nat.lt_of_lt_of_le ps HW.out.size
        replace x0 := cell_below HW.out x0
        replace x1 := cell_below HW.out x1
        replace x2 := cell_below HW.out x2
        replace x3 := cell_below HW.out x3
        replace xs := Nat.lt_of_lt_of_le xs HW.out.size
        replace n0 := cell_below HW.out n0
        replace n1 := cell_below HW.out n1
        replace n2 := cell_below HW.out n2
        replace n3 := cell_below HW.out n3
        replace ns := Nat.lt_of_lt_of_le ns HW.out.size
        replace HM := Lib.hid (HM.out.below HW.out)
        replace H1 := Lib.hid (H1.out.below HW.out)
        replace H2 := Lib.hid (H2.out.below HW.out)
        replace H3 := Lib.hid (H3.out.below HW.out)
        replace HD := Lib.hid (HD.out.below HW.out)
        replace HB := Lib.hid (HB.out.trans (HW.out.mono HB.out.size))
        clear HW b
        go_upto_region 13 with fail
        go_cut [129] from 100 to 129 (fun s wx => s = .bool false ∧ wx = w10)
        case first =>
          cases h1 : (storeI m p x == 0) <;> cases h2 : (freeI m p == 0) <;> cases h3 : (newI m 0 0 3 [2, 1] == 0)
          all_goals
            go_wp2
            go_meet
            exact ⟨rfl, rfl⟩
        case rest =>
          obtain ⟨rfl, rfl⟩ := hcut
          go_wp2_with fail
          go_loopw [29, 30, 31, 32] (fun s29 _ _ _ wr => s29 = .int .i64 0 ∧ Below wc.heap.size wc wr) (fun _ _ _ _ _ => 0)
          case atStart => exact ⟨rfl, Below.refl _ _⟩
          case round =>
            obtain ⟨rfl, hb⟩ := hrel
            have HR := Lib.hid hb; clear hb
            go_wp2
            go_ret
            exact ⟨rfl, HB.out.trans (HR.out.mono HB.out.size)⟩
    · go_wp2_with fail
      (with_reducible refine (great_at hg _ (HM.out.below (by repeat (first | exact Below.refl _ _ | (with_reducible refine Below.drew ?_) | refine Below.setCell ?_ (by simp) _ | refine Below.alloc ?_ (by simp <;> omega) _)))).mono ?_); rintro e _ ⟨rfl, rfl⟩
      go_wp2
      go_ret
      exact ⟨rfl, HB.out⟩
  · have hb : holdsB m = false := by
      unfold holdsB
      cases h1 : mayM m
      · rfl
      · cases h2 : lifeB m
        · rfl
        · exact absurd ⟨h1, h2⟩ hh
    clear hh
    go_wp2_with fail
    (with_reducible refine (holds_at (b := false) (i := holdsI m) _ (HM.out.below (by repeat (first | exact Below.refl _ _ | (with_reducible refine Below.drew ?_) | refine Below.setCell ?_ (by simp) _ | refine Below.alloc ?_ (by simp <;> omega) _))) hb rfl).mono ?_); rintro e w2 ⟨rfl, b⟩
    have HW := Lib.hid (show Below w1.heap.size w1 w2 from Below.trans (by repeat (first | exact Below.refl _ _ | (with_reducible refine Below.drew ?_) | refine Below.setCell ?_ (by simp) _ | refine Below.alloc ?_ (by simp <;> omega) _)) (b.mono (by simp <;> omega)))
    replace p0 := cell_below HW.out p0
    replace p1 := cell_below HW.out p1
    replace p2 := cell_below HW.out p2
    replace p3 := cell_below HW.out p3
    replace ps := Nat.lt_of_lt_of_le ps HW.out.size
    replace x0 := cell_below HW.out x0
    replace x1 := cell_below HW.out x1
    replace x2 := cell_below HW.out x2
    replace x3 := cell_below HW.out x3
    replace xs := Nat.lt_of_lt_of_le xs HW.out.size
    replace HM := Lib.hid (HM.out.below HW.out)
    replace HB := Lib.hid (HB.out.trans (HW.out.mono HB.out.size))
    clear HW b
    cases hg : greatB m
    · go_wp2_with fail
      (with_reducible refine (great_at hg _ (HM.out.below (by repeat (first | exact Below.refl _ _ | (with_reducible refine Below.drew ?_) | refine Below.setCell ?_ (by simp) _ | refine Below.alloc ?_ (by simp <;> omega) _)))).mono ?_); rintro e _ ⟨rfl, rfl⟩
      go_wp2
      all_goals
        go_ret
        exact ⟨rfl, HB.out⟩
    · go_wp2_with fail
      (with_reducible refine (great_at hg _ (HM.out.below (by repeat (first | exact Below.refl _ _ | (with_reducible refine Below.drew ?_) | refine Below.setCell ?_ (by simp) _ | refine Below.alloc ?_ (by simp <;> omega) _)))).mono ?_); rintro e _ ⟨rfl, rfl⟩
      go_wp2
      all_goals
        go_ret
        exact ⟨rfl, HB.out⟩


/-! ### THE ROW's STEP -/
theorem own : ownKnob Try.prog.godebug = none := by kernel_rfl

theorem laidOut : laidOutB Try.prog = true := by kernel_rfl

set_option maxRecDepth 100000 in
theorem lifted (os : Os) (started : os.Started) (H : Type) (enc : TypeId × Value → H) :
    ReturnsInHanded {} Try.checked os 3 .any (Rows.memLifeSpec.pre6 enc Try.prog Try.f3 Rows.memLifeRow.domain false) (Rows.memLifeSpec.post enc Try.prog Try.f3 false true false false) := by
  refine returnsInHanded_of_change (C := Try.checked) own started (by kernel_rfl) Try.func3
    (ChangeSpec.witness6 (enc := enc) (C := Try.checked) false ⟨#[], #[.slice none 0 0, .agg #[.int .u8 0, .int .i64 0, .int .i64 0, .int .i64 0], .agg #[.int .u8 0, .int .i64 0, .int .i64 0, .int .i64 0], .int .i64 0], []⟩ 8 (by kernel_rfl) (by kernel_rfl) (by kernel_rfl) (by kernel_rfl)) ?_
  intro W base args ds gs before hval0 hW hcnd _
  have hval : ∀ (j : Nat) t v, Try.f3.params[j]? = some t → args[j]? = some v → Value.okWide Try.prog W .any base t v := hval0
  have hW' := hW
  obtain ⟨p, q, hA0, hV, rfl, hfz, hnd⟩ := hW
  have hA : DataW.TrodAll enc Try.prog W 0 (fun _ => true) true Try.f3.params.toList args.toList ds p := hA0
  rw [Try.params3] at hA hval
  obtain ⟨v0, vs0, d0, ds0, p0, q0, hargs, rfl, rfl, h0, r0⟩ := trodAll_cons hA
  obtain ⟨v1, vs1, d1, ds1, p1, q1, rfl, rfl, rfl, h1, r1⟩ := trodAll_cons r0
  obtain ⟨v2, vs2, d2, ds2, p2, q2, rfl, rfl, rfl, h2, r2⟩ := trodAll_cons r1
  obtain ⟨v3, vs3, d3, ds3, p3, q3, rfl, rfl, rfl, h3, r3⟩ := trodAll_cons r2
  obtain ⟨rfl, rfl, rfl⟩ := trodAll_nil r3
  obtain rfl : args = #[v0, v1, v2, v3] := by cases args; simp_all
  obtain ⟨rfl, rfl⟩ := trodVars_none hV
  obtain ⟨m0, hm0⟩ := open_blks (hval 0 22 v0 rfl rfl) h0
  obtain ⟨k1, n1, b1, o1, rfl, kw1, nw1, bw1, ow1⟩ := open_val (hval 1 24 v1 rfl rfl) h1
  obtain ⟨k2, n2, b2, o2, rfl, kw2, nw2, bw2, ow2⟩ := open_val (hval 2 24 v2 rfl rfl) h2
  obtain ⟨a3, rfl, rfl, rfl, w3⟩ := open_int Try.underlying3 (hval 3 3 v3 rfl rfl) h3
  refine (core ⟨k1, n1, b1, o1⟩ ⟨k2, n2, b2, o2⟩ a3 W hm0).mono fun e W' ⟨he, hg⟩ => ?_
  subst he
  exact ⟨_, rfl, law_post laidOut (by
    intro t ht
    simp only [Try.params3, List.mem_cons, List.not_mem_nil, or_false] at ht
    rcases ht with rfl | rfl | rfl | rfl <;> exact ⟨by kernel_rfl, of_decide_eq_true (by kernel_rfl)⟩) rfl rfl Try.underlying4 rfl hW' hg⟩

theorem over : Rows.memLifeRow.holds Try.pinned (OpenSpec.ofChange Rows.memLifeSpec) :=
  OpenClaim.holds_of_wide 3 Try.f3 rfl rfl rfl rfl rfl rfl rfl ⟨rfl, rfl, rfl, rfl, rfl⟩ rfl rfl rfl rfl rfl (by kernel_rfl) Try.func3 (by kernel_rfl)
    (of_decide_eq_true (by kernel_rfl)) (by unfold Func.isWrapper; first | (rw [if_pos (by decide +kernel)]; kernel_rfl) | (rw [if_neg (by decide +kernel)]; exact ⟨rfl, rfl⟩))
    (fun os started H enc _ => lifted os started H enc)

theorem proved : Rows.MemLifeSaid :=
  over
#print axioms proved

end Go.Proofs.Ytmelamlngjflkaa.memLife

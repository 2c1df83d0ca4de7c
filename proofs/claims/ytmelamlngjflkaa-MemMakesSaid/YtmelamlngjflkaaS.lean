/- The contract of Store: what it answers is the memory, with the value in its cell, in blocks of its own; or nothing, and the error. -/
import Derived.Test.YtmelamlngjflkaaRows
import Derived.WalkKit
import Derived.ProofKit
import Derived.OpenShut
import Derived.Below
import Derived.Outline
import Derived.LoopTactic
import Derived.Test.YtmelamlngjflkaaRep
import Derived.Test.YtmelamlngjflkaaU
import Derived.Lib.Hide
import Derived.RegionTactic
import Derived.BigRegion
import Derived.Deep.RegionWith
import Derived.Test.YtmelamlngjflkaaF
import Derived.Test.YtmelamlngjflkaaJ
namespace Go.Proofs.Ytmelamlngjflkaa
open Go.ChangeShapes Go.WideShapes Go.ChangeAt Go.RowKit
set_option linter.unusedVariables false

def storeI (m : List Blk) (p x : Val) : Int :=
  if askedI m p true = 0 then
    if isB m x = false ∨ (0 < p.b ∧ ¬ (cellAt m p).k = x.k) then 2
    else if p.b = 0 then 140
    else if (blkAt m p).alive then (if (blkAt m p).dep < deepB m x then 144 else 0) else 142
  else askedI m p true
def storeM (m : List Blk) (p x : Val) : List Blk := m.set (p.b.toNat - 1) { blkAt m p with cells := (blkAt m p).cells.set p.o.toNat x }
def storeR (m : List Blk) (p x : Val) : List Blk := if storeI m p x = 0 then storeM m p x else []

theorem b3 {w w1 : World} {o o' : Obj} (h : Below ((w.alloc o).alloc o').heap.size ((w.alloc o).alloc o') w1) : Below w.heap.size w w1 ∧ w.heap.size + 1 < w1.heap.size := by
  refine ⟨b2 h, ?_⟩
  have := h.size
  simp at this
  omega

theorem store_bad {m : List Blk} {v : Value} (p x : Val) (i : Int) (w : World) (hm : BsAt w v m) (h : askedI m p true = i) (hi : ¬ i = 0) :
    Calls Try.prog 14 #[v, .agg #[.int .u8 p.k, .int .i64 p.n, .int .i64 p.b, .int .i64 p.o], .agg #[.int .u8 x.k, .int .i64 x.n, .int .i64 x.b, .int .i64 x.o]] w (MadeP [] i w) := by
  have HM := Lib.hid hm; clear hm
  have HI := Lib.hid h; clear h
  have e1 : (i == 0) = false := by simpa using hi
  have e2 : (i != 0) = true := by simpa using hi
  clear hi
  go_enter Try.func14, Try.ntmps14
  go_wp2_with fail
  (with_reducible refine (asked_is p true i _ (HM.out.below (((Below.refl _ _).alloc (Nat.le_refl _) _).alloc (by simp) _)) HI.out).mono ?_); rintro e w1 ⟨rfl, h1⟩
  have H1 := Lib.hid (b2 h1); clear h1
  go_wp2
  go_ret2
  exact ⟨_, rfl, Lay.no _ _, H1.out⟩

set_option maxHeartbeats 1000000 in
theorem store_none {m : List Blk} {v : Value} (p x : Val) (w : World) (hm : BsAt w v m) (h : askedI m p true = 0) (hx : isB m x = false) :
    Calls Try.prog 14 #[v, .agg #[.int .u8 p.k, .int .i64 p.n, .int .i64 p.b, .int .i64 p.o], .agg #[.int .u8 x.k, .int .i64 x.n, .int .i64 x.b, .int .i64 x.o]] w (MadeP [] 2 w) := by
  have HM := Lib.hid hm; clear hm
  have HI := Lib.hid h; clear h
  have HX := Lib.hid hx; clear hx
  go_enter Try.func14, Try.ntmps14
  go_wp2_with fail
  (with_reducible refine (asked_is p true 0 _ (HM.out.below (((Below.refl _ _).alloc (Nat.le_refl _) _).alloc (by simp) _)) HI.out).mono ?_); rintro e w1 ⟨rfl, h1⟩
  obtain ⟨b1, z1⟩ := b3 h1
  have B1 := Lib.hid b1; clear b1
  have z0 : w.heap.size < w1.heap.size := by omega
  have x0 : w1.cell? ⟨w.heap.size, 0, none⟩ = some (.int .u8 p.k) := cell_below h1 (by simp)
  have x1 : w1.cell? ⟨w.heap.size, 1, none⟩ = some (.int .i64 p.n) := cell_below h1 (by simp)
  have x2 : w1.cell? ⟨w.heap.size, 2, none⟩ = some (.int .i64 p.b) := cell_below h1 (by simp)
  have x3 : w1.cell? ⟨w.heap.size, 3, none⟩ = some (.int .i64 p.o) := cell_below h1 (by simp)
  have y0 : w1.cell? ⟨w.heap.size + 1, 0, none⟩ = some (.int .u8 x.k) := cell_below h1 (by simp)
  have y1 : w1.cell? ⟨w.heap.size + 1, 1, none⟩ = some (.int .i64 x.n) := cell_below h1 (by simp)
  have y2 : w1.cell? ⟨w.heap.size + 1, 2, none⟩ = some (.int .i64 x.b) := cell_below h1 (by simp)
  have y3 : w1.cell? ⟨w.heap.size + 1, 3, none⟩ = some (.int .i64 x.o) := cell_below h1 (by simp)
  clear h1
  go_wp2_with fail
  have cu := upon_cell w1 w1.heap.size
  refine wp_region_upon (by kernel_rfl) (by kernel_rfl) ?_
  repeat (go_big_quiet_step (first | (go_at_call 41; exact calls_upon (is_not x _ ((HM.out.below B1.out).below (upon_below _ _ _)) HX.out))))
  refine wpQuiet_nil ?_
  intro W' hb'
  go_wp2
  go_ret2
  exact ⟨_, rfl, Lay.no _ _, B1.out.trans (hb'.mono B1.out.size)⟩

set_option maxHeartbeats 1000000 in
theorem store_null {m : List Blk} {v : Value} (p x : Val) (w : World) (hm : BsAt w v m) (h : askedI m p true = 0) (hx : isB m x = true) (hp : p.b = 0) :
    Calls Try.prog 14 #[v, .agg #[.int .u8 p.k, .int .i64 p.n, .int .i64 p.b, .int .i64 p.o], .agg #[.int .u8 x.k, .int .i64 x.n, .int .i64 x.b, .int .i64 x.o]] w (MadeP [] 140 w) := by
  have HM := Lib.hid hm; clear hm
  have HI := Lib.hid h; clear h
  have HX := Lib.hid hx; clear hx
  have d1 : decide (0 < p.b) = false := by simp; omega
  have d2 : (p.b == 0) = true := by simpa using hp
  clear hp
  go_enter Try.func14, Try.ntmps14
  go_wp2_with fail
  (with_reducible refine (asked_is p true 0 _ (HM.out.below (((Below.refl _ _).alloc (Nat.le_refl _) _).alloc (by simp) _)) HI.out).mono ?_); rintro e w1 ⟨rfl, h1⟩
  obtain ⟨b1, z1⟩ := b3 h1
  have B1 := Lib.hid b1; clear b1
  have z0 : w.heap.size < w1.heap.size := by omega
  have x0 : w1.cell? ⟨w.heap.size, 0, none⟩ = some (.int .u8 p.k) := cell_below h1 (by simp)
  have x1 : w1.cell? ⟨w.heap.size, 1, none⟩ = some (.int .i64 p.n) := cell_below h1 (by simp)
  have x2 : w1.cell? ⟨w.heap.size, 2, none⟩ = some (.int .i64 p.b) := cell_below h1 (by simp)
  have x3 : w1.cell? ⟨w.heap.size, 3, none⟩ = some (.int .i64 p.o) := cell_below h1 (by simp)
  have y0 : w1.cell? ⟨w.heap.size + 1, 0, none⟩ = some (.int .u8 x.k) := cell_below h1 (by simp)
  have y1 : w1.cell? ⟨w.heap.size + 1, 1, none⟩ = some (.int .i64 x.n) := cell_below h1 (by simp)
  have y2 : w1.cell? ⟨w.heap.size + 1, 2, none⟩ = some (.int .i64 x.b) := cell_below h1 (by simp)
  have y3 : w1.cell? ⟨w.heap.size + 1, 3, none⟩ = some (.int .i64 x.o) := cell_below h1 (by simp)
  clear h1
  go_wp2_with fail
  have cu := upon_cell w1 w1.heap.size
  refine wp_region_upon (by kernel_rfl) (by kernel_rfl) ?_
  repeat (go_big_quiet_step (first | (go_at_call 41; exact calls_upon (is_yes x _ ((HM.out.below B1.out).below (upon_below _ _ _)) HX.out))))
  refine wpQuiet_nil ?_
  intro W' hb'
  have B2 := Lib.hid (B1.out.trans (hb'.mono B1.out.size))
  have x2' := cell_below hb' x2
  clear hb' cu
  go_wp2
  go_ret2
  exact ⟨_, rfl, Lay.no _ _, B2.out⟩

set_option maxHeartbeats 2000000 in
theorem store_kind {m : List Blk} {v : Value} (p x : Val) (w : World) (hm : BsAt w v m) (h : askedI m p true = 0) (hx : isB m x = true) (hb0 : 0 < p.b) (hh : ¬ (cellAt m p).k = x.k ∧ (blkAt m p).cells.length = (blkAt m p).cells.length) :
    Calls Try.prog 14 #[v, .agg #[.int .u8 p.k, .int .i64 p.n, .int .i64 p.b, .int .i64 p.o], .agg #[.int .u8 x.k, .int .i64 x.n, .int .i64 x.b, .int .i64 x.o]] w (MadeP ([]) 2 w) := by
  have hm' := hm
  obtain ⟨A, c, rfl, hl, hq⟩ := hm'
  clear hq
  obtain ⟨hy, hk, his, hn⟩ := askedI_zero h
  have hb : ¬ p.b = 0 := by omega
  obtain ⟨_, hbl, ho0, b, hgb, heb, hol, hce⟩ := in_of hk hb his
  rw [heb] at hh
  obtain ⟨g, og, rfl, hg, q0, q1, q2, q3, hv, q4, h5⟩ := hm.get hgb
  have h5' := h5
  obtain ⟨Ai, ci, rfl, hl5, hx5⟩ := h5'
  clear hx5
  obtain ⟨gi, oi, rfl, hgi, t0, _, _, _⟩ := h5.get hce
  have HML := Lib.hid (mayM_len hy)
  have HM := Lib.hid hm; clear hm
  have HI := Lib.hid h; clear h
  have HGB := Lib.hid hgb
  have HEB := Lib.hid heb
  have HCE := Lib.hid hce
  have HX := Lib.hid hx; clear hx
  have d1 : decide (0 < p.b) = true := by simpa using hb0
  have d2 : (p.b == 0) = false := by simp; omega
  clear hy hk his hn hb hgb heb hce h5
  have e1 : ((cellAt m p).k == x.k) = false := by simpa using hh.1
  have e2 : ((cellAt m p).k != x.k) = true := by simpa using hh.1
  clear hh
  go_enter Try.func14, Try.ntmps14
  go_wp2_with fail
  (with_reducible refine (asked_is p true 0 _ (HM.out.below (((Below.refl _ _).alloc (Nat.le_refl _) _).alloc (by simp) _)) HI.out).mono ?_); rintro e w1 ⟨rfl, h1⟩
  obtain ⟨b1, z1⟩ := b3 h1
  have B1 := Lib.hid b1; clear b1
  have z0 : w.heap.size < w1.heap.size := by omega
  have x0 : w1.cell? ⟨w.heap.size, 0, none⟩ = some (.int .u8 p.k) := cell_below h1 (by simp)
  have x1 : w1.cell? ⟨w.heap.size, 1, none⟩ = some (.int .i64 p.n) := cell_below h1 (by simp)
  have x2 : w1.cell? ⟨w.heap.size, 2, none⟩ = some (.int .i64 p.b) := cell_below h1 (by simp)
  have x3 : w1.cell? ⟨w.heap.size, 3, none⟩ = some (.int .i64 p.o) := cell_below h1 (by simp)
  have y0 : w1.cell? ⟨w.heap.size + 1, 0, none⟩ = some (.int .u8 x.k) := cell_below h1 (by simp)
  have y1 : w1.cell? ⟨w.heap.size + 1, 1, none⟩ = some (.int .i64 x.n) := cell_below h1 (by simp)
  have y2 : w1.cell? ⟨w.heap.size + 1, 2, none⟩ = some (.int .i64 x.b) := cell_below h1 (by simp)
  have y3 : w1.cell? ⟨w.heap.size + 1, 3, none⟩ = some (.int .i64 x.o) := cell_below h1 (by simp)
  clear h1
  have r2 := cell_below B1.out q2
  have r3 := cell_below B1.out q3
  have r4 := cell_below B1.out q4
  have u0 := cell_below B1.out t0
  have zg : g < w1.heap.size := by omega
  have zgi : gi < w1.heap.size := by omega
  clear q0 q1 q2 q3 q4 t0
  go_wp2_with fail
  have cu := upon_cell w1 w1.heap.size
  refine wp_region_upon (by kernel_rfl) (by kernel_rfl) ?_
  repeat (go_big_quiet_step (first | (go_at_call 41; exact calls_upon (is_yes x _ ((HM.out.below B1.out).below (upon_below _ _ _)) HX.out))))
  refine wpQuiet_nil ?_
  intro W' hb'
  have B2 := Lib.hid (B1.out.trans (hb'.mono B1.out.size))
  clear hb' cu
  go_wp2
  go_ret2
  exact ⟨_, rfl, Lay.no _ _, B2.out⟩

set_option maxHeartbeats 2000000 in
theorem store_dead {m : List Blk} {v : Value} (p x : Val) (w : World) (hm : BsAt w v m) (h : askedI m p true = 0) (hx : isB m x = true) (hb0 : 0 < p.b) (hkx : (cellAt m p).k = x.k) (hh : (blkAt m p).alive = false) :
    Calls Try.prog 14 #[v, .agg #[.int .u8 p.k, .int .i64 p.n, .int .i64 p.b, .int .i64 p.o], .agg #[.int .u8 x.k, .int .i64 x.n, .int .i64 x.b, .int .i64 x.o]] w (MadeP ([]) 142 w) := by
  have hm' := hm
  obtain ⟨A, c, rfl, hl, hq⟩ := hm'
  clear hq
  obtain ⟨hy, hk, his, hn⟩ := askedI_zero h
  have hb : ¬ p.b = 0 := by omega
  obtain ⟨_, hbl, ho0, b, hgb, heb, hol, hce⟩ := in_of hk hb his
  rw [heb] at hh
  obtain ⟨g, og, rfl, hg, q0, q1, q2, q3, hv, q4, h5⟩ := hm.get hgb
  have h5' := h5
  obtain ⟨Ai, ci, rfl, hl5, hx5⟩ := h5'
  clear hx5
  obtain ⟨gi, oi, rfl, hgi, t0, _, _, _⟩ := h5.get hce
  have HML := Lib.hid (mayM_len hy)
  have HM := Lib.hid hm; clear hm
  have HI := Lib.hid h; clear h
  have HGB := Lib.hid hgb
  have HEB := Lib.hid heb
  have HCE := Lib.hid hce
  have HX := Lib.hid hx; clear hx
  have d1 : decide (0 < p.b) = true := by simpa using hb0
  have d2 : (p.b == 0) = false := by simp; omega
  clear hy hk his hn hb hgb heb hce h5
  rw [hkx] at t0
  rw [hh] at q3
  clear hh hkx
  go_enter Try.func14, Try.ntmps14
  go_wp2_with fail
  (with_reducible refine (asked_is p true 0 _ (HM.out.below (((Below.refl _ _).alloc (Nat.le_refl _) _).alloc (by simp) _)) HI.out).mono ?_); rintro e w1 ⟨rfl, h1⟩
  obtain ⟨b1, z1⟩ := b3 h1
  have B1 := Lib.hid b1; clear b1
  have z0 : w.heap.size < w1.heap.size := by omega
  have x0 : w1.cell? ⟨w.heap.size, 0, none⟩ = some (.int .u8 p.k) := cell_below h1 (by simp)
  have x1 : w1.cell? ⟨w.heap.size, 1, none⟩ = some (.int .i64 p.n) := cell_below h1 (by simp)
  have x2 : w1.cell? ⟨w.heap.size, 2, none⟩ = some (.int .i64 p.b) := cell_below h1 (by simp)
  have x3 : w1.cell? ⟨w.heap.size, 3, none⟩ = some (.int .i64 p.o) := cell_below h1 (by simp)
  have y0 : w1.cell? ⟨w.heap.size + 1, 0, none⟩ = some (.int .u8 x.k) := cell_below h1 (by simp)
  have y1 : w1.cell? ⟨w.heap.size + 1, 1, none⟩ = some (.int .i64 x.n) := cell_below h1 (by simp)
  have y2 : w1.cell? ⟨w.heap.size + 1, 2, none⟩ = some (.int .i64 x.b) := cell_below h1 (by simp)
  have y3 : w1.cell? ⟨w.heap.size + 1, 3, none⟩ = some (.int .i64 x.o) := cell_below h1 (by simp)
  clear h1
  have r2 := cell_below B1.out q2
  have r3 := cell_below B1.out q3
  have r4 := cell_below B1.out q4
  have u0 := cell_below B1.out t0
  have zg : g < w1.heap.size := by omega
  have zgi : gi < w1.heap.size := by omega
  clear q0 q1 q2 q3 q4 t0
  go_wp2_with fail
  have cu := upon_cell w1 w1.heap.size
  refine wp_region_upon (by kernel_rfl) (by kernel_rfl) ?_
  repeat (go_big_quiet_step (first | (go_at_call 41; exact calls_upon (is_yes x _ ((HM.out.below B1.out).below (upon_below _ _ _)) HX.out))))
  refine wpQuiet_nil ?_
  intro W' hb'
  have B2 := Lib.hid (B1.out.trans (hb'.mono B1.out.size))
  have X0 := cell_below hb' x0
  have X1 := cell_below hb' x1
  have X2 := cell_below hb' x2
  have X3 := cell_below hb' x3
  have Y0 := cell_below hb' y0
  have Y1 := cell_below hb' y1
  have Y2 := cell_below hb' y2
  have Y3 := cell_below hb' y3
  have R2 := cell_below hb' r2
  have R3 := cell_below hb' r3
  have ZG := Nat.lt_of_lt_of_le zg hb'.size
  have Z0 := Nat.lt_of_lt_of_le z0 hb'.size
  have Z1 := Nat.lt_of_lt_of_le z1 hb'.size
  clear x0 x1 x2 x3 y0 y1 y2 y3 r2 r3 r4 u0 zg zgi z0 z1
  clear hb' cu
  go_wp2
  go_ret2
  exact ⟨_, rfl, Lay.no _ _, B2.out⟩

set_option maxHeartbeats 2000000 in
theorem store_life {m : List Blk} {v : Value} (p x : Val) (w : World) (hm : BsAt w v m) (h : askedI m p true = 0) (hx : isB m x = true) (hb0 : 0 < p.b) (hkx : (cellAt m p).k = x.k) (hh : (blkAt m p).alive = true ∧ (blkAt m p).dep < deepB m x) :
    Calls Try.prog 14 #[v, .agg #[.int .u8 p.k, .int .i64 p.n, .int .i64 p.b, .int .i64 p.o], .agg #[.int .u8 x.k, .int .i64 x.n, .int .i64 x.b, .int .i64 x.o]] w (MadeP ([]) 144 w) := by
  have hm' := hm
  obtain ⟨A, c, rfl, hl, hq⟩ := hm'
  clear hq
  obtain ⟨hy, hk, his, hn⟩ := askedI_zero h
  have hb : ¬ p.b = 0 := by omega
  obtain ⟨_, hbl, ho0, b, hgb, heb, hol, hce⟩ := in_of hk hb his
  rw [heb] at hh
  obtain ⟨g, og, rfl, hg, q0, q1, q2, q3, hv, q4, h5⟩ := hm.get hgb
  have h5' := h5
  obtain ⟨Ai, ci, rfl, hl5, hx5⟩ := h5'
  clear hx5
  obtain ⟨gi, oi, rfl, hgi, t0, _, _, _⟩ := h5.get hce
  have HML := Lib.hid (mayM_len hy)
  have HM := Lib.hid hm; clear hm
  have HI := Lib.hid h; clear h
  have HGB := Lib.hid hgb
  have HEB := Lib.hid heb
  have HCE := Lib.hid hce
  have HX := Lib.hid hx; clear hx
  have d1 : decide (0 < p.b) = true := by simpa using hb0
  have d2 : (p.b == 0) = false := by simp; omega
  clear hy hk his hn hb hgb heb hce h5
  obtain ⟨hh1, hh2⟩ := hh
  rw [hkx] at t0
  rw [hh1] at q3
  clear hh1 hkx
  go_enter Try.func14, Try.ntmps14
  go_wp2_with fail
  (with_reducible refine (asked_is p true 0 _ (HM.out.below (((Below.refl _ _).alloc (Nat.le_refl _) _).alloc (by simp) _)) HI.out).mono ?_); rintro e w1 ⟨rfl, h1⟩
  obtain ⟨b1, z1⟩ := b3 h1
  have B1 := Lib.hid b1; clear b1
  have z0 : w.heap.size < w1.heap.size := by omega
  have x0 : w1.cell? ⟨w.heap.size, 0, none⟩ = some (.int .u8 p.k) := cell_below h1 (by simp)
  have x1 : w1.cell? ⟨w.heap.size, 1, none⟩ = some (.int .i64 p.n) := cell_below h1 (by simp)
  have x2 : w1.cell? ⟨w.heap.size, 2, none⟩ = some (.int .i64 p.b) := cell_below h1 (by simp)
  have x3 : w1.cell? ⟨w.heap.size, 3, none⟩ = some (.int .i64 p.o) := cell_below h1 (by simp)
  have y0 : w1.cell? ⟨w.heap.size + 1, 0, none⟩ = some (.int .u8 x.k) := cell_below h1 (by simp)
  have y1 : w1.cell? ⟨w.heap.size + 1, 1, none⟩ = some (.int .i64 x.n) := cell_below h1 (by simp)
  have y2 : w1.cell? ⟨w.heap.size + 1, 2, none⟩ = some (.int .i64 x.b) := cell_below h1 (by simp)
  have y3 : w1.cell? ⟨w.heap.size + 1, 3, none⟩ = some (.int .i64 x.o) := cell_below h1 (by simp)
  clear h1
  have r2 := cell_below B1.out q2
  have r3 := cell_below B1.out q3
  have r4 := cell_below B1.out q4
  have u0 := cell_below B1.out t0
  have zg : g < w1.heap.size := by omega
  have zgi : gi < w1.heap.size := by omega
  clear q0 q1 q2 q3 q4 t0
  go_wp2_with fail
  have cu := upon_cell w1 w1.heap.size
  refine wp_region_upon (by kernel_rfl) (by kernel_rfl) ?_
  repeat (go_big_quiet_step (first | (go_at_call 41; exact calls_upon (is_yes x _ ((HM.out.below B1.out).below (upon_below _ _ _)) HX.out))))
  refine wpQuiet_nil ?_
  intro W' hb'
  have B2 := Lib.hid (B1.out.trans (hb'.mono B1.out.size))
  have X0 := cell_below hb' x0
  have X1 := cell_below hb' x1
  have X2 := cell_below hb' x2
  have X3 := cell_below hb' x3
  have Y0 := cell_below hb' y0
  have Y1 := cell_below hb' y1
  have Y2 := cell_below hb' y2
  have Y3 := cell_below hb' y3
  have R2 := cell_below hb' r2
  have R3 := cell_below hb' r3
  have ZG := Nat.lt_of_lt_of_le zg hb'.size
  have Z0 := Nat.lt_of_lt_of_le z0 hb'.size
  have Z1 := Nat.lt_of_lt_of_le z1 hb'.size
  clear x0 x1 x2 x3 y0 y1 y2 y3 r2 r3 r4 u0 zg zgi z0 z1
  clear hb' cu
  go_wp2_with fail
  have cu := upon_cell W' W'.heap.size
  refine wp_region_upon (by kernel_rfl) (by kernel_rfl) ?_
  repeat (go_big_quiet_step (first | (go_at_call 39; exact calls_upon (deep_any x _ ((HM.out.below B2.out).below (upon_below _ _ _)) HX.out))))
  refine wpQuiet_nil ?_
  intro W2 hb2
  have B3 := Lib.hid (B2.out.trans (hb2.mono B2.out.size))
  clear hb2 cu
  go_wp2
  go_ret2
  exact ⟨_, rfl, Lay.no _ _, B3.out⟩

set_option maxHeartbeats 2000000 in
theorem store_good {m : List Blk} {v : Value} (p x : Val) (w : World) (hm : BsAt w v m) (h : askedI m p true = 0) (hx : isB m x = true) (hb0 : 0 < p.b) (hkx : (cellAt m p).k = x.k) (hh : (blkAt m p).alive = true ∧ ¬ (blkAt m p).dep < deepB m x) :
    Calls Try.prog 14 #[v, .agg #[.int .u8 p.k, .int .i64 p.n, .int .i64 p.b, .int .i64 p.o], .agg #[.int .u8 x.k, .int .i64 x.n, .int .i64 x.b, .int .i64 x.o]] w (MadeP (storeM m p x) 0 w) := by
  have hm' := hm
  obtain ⟨A, c, rfl, hl, hq⟩ := hm'
  clear hq
  obtain ⟨hy, hk, his, hn⟩ := askedI_zero h
  have hb : ¬ p.b = 0 := by omega
  obtain ⟨_, hbl, ho0, b, hgb, heb, hol, hce⟩ := in_of hk hb his
  rw [heb] at hh
  obtain ⟨g, og, rfl, hg, q0, q1, q2, q3, hv, q4, h5⟩ := hm.get hgb
  have h5' := h5
  obtain ⟨Ai, ci, rfl, hl5, hx5⟩ := h5'
  clear hx5
  obtain ⟨gi, oi, rfl, hgi, t0, _, _, _⟩ := h5.get hce
  have HML := Lib.hid (mayM_len hy)
  have HM := Lib.hid hm; clear hm
  have HI := Lib.hid h; clear h
  have HGB := Lib.hid hgb
  have HEB := Lib.hid heb
  have HCE := Lib.hid hce
  have HX := Lib.hid hx; clear hx
  have d1 : decide (0 < p.b) = true := by simpa using hb0
  have d2 : (p.b == 0) = false := by simp; omega
  clear hy hk his hn hb hgb heb hce h5
  obtain ⟨hh1, hh2⟩ := hh
  rw [hkx] at t0
  rw [hh1] at q3
  clear hh1 hkx
  go_enter Try.func14, Try.ntmps14
  go_wp2_with fail
  (with_reducible refine (asked_is p true 0 _ (HM.out.below (((Below.refl _ _).alloc (Nat.le_refl _) _).alloc (by simp) _)) HI.out).mono ?_); rintro e w1 ⟨rfl, h1⟩
  obtain ⟨b1, z1⟩ := b3 h1
  have B1 := Lib.hid b1; clear b1
  have z0 : w.heap.size < w1.heap.size := by omega
  have x0 : w1.cell? ⟨w.heap.size, 0, none⟩ = some (.int .u8 p.k) := cell_below h1 (by simp)
  have x1 : w1.cell? ⟨w.heap.size, 1, none⟩ = some (.int .i64 p.n) := cell_below h1 (by simp)
  have x2 : w1.cell? ⟨w.heap.size, 2, none⟩ = some (.int .i64 p.b) := cell_below h1 (by simp)
  have x3 : w1.cell? ⟨w.heap.size, 3, none⟩ = some (.int .i64 p.o) := cell_below h1 (by simp)
  have y0 : w1.cell? ⟨w.heap.size + 1, 0, none⟩ = some (.int .u8 x.k) := cell_below h1 (by simp)
  have y1 : w1.cell? ⟨w.heap.size + 1, 1, none⟩ = some (.int .i64 x.n) := cell_below h1 (by simp)
  have y2 : w1.cell? ⟨w.heap.size + 1, 2, none⟩ = some (.int .i64 x.b) := cell_below h1 (by simp)
  have y3 : w1.cell? ⟨w.heap.size + 1, 3, none⟩ = some (.int .i64 x.o) := cell_below h1 (by simp)
  clear h1
  have r2 := cell_below B1.out q2
  have r3 := cell_below B1.out q3
  have r4 := cell_below B1.out q4
  have u0 := cell_below B1.out t0
  have zg : g < w1.heap.size := by omega
  have zgi : gi < w1.heap.size := by omega
  clear q0 q1 q2 q3 q4 t0
  go_wp2_with fail
  have cu := upon_cell w1 w1.heap.size
  refine wp_region_upon (by kernel_rfl) (by kernel_rfl) ?_
  repeat (go_big_quiet_step (first | (go_at_call 41; exact calls_upon (is_yes x _ ((HM.out.below B1.out).below (upon_below _ _ _)) HX.out))))
  refine wpQuiet_nil ?_
  intro W' hb'
  have B2 := Lib.hid (B1.out.trans (hb'.mono B1.out.size))
  have X0 := cell_below hb' x0
  have X1 := cell_below hb' x1
  have X2 := cell_below hb' x2
  have X3 := cell_below hb' x3
  have Y0 := cell_below hb' y0
  have Y1 := cell_below hb' y1
  have Y2 := cell_below hb' y2
  have Y3 := cell_below hb' y3
  have R2 := cell_below hb' r2
  have R3 := cell_below hb' r3
  have ZG := Nat.lt_of_lt_of_le zg hb'.size
  have Z0 := Nat.lt_of_lt_of_le z0 hb'.size
  have Z1 := Nat.lt_of_lt_of_le z1 hb'.size
  clear x0 x1 x2 x3 y0 y1 y2 y3 r2 r3 r4 u0 zg zgi z0 z1
  clear hb' cu
  go_wp2_with fail
  have cu := upon_cell W' W'.heap.size
  refine wp_region_upon (by kernel_rfl) (by kernel_rfl) ?_
  repeat (go_big_quiet_step (first | (go_at_call 39; exact calls_upon (deep_any x _ ((HM.out.below B2.out).below (upon_below _ _ _)) HX.out))))
  refine wpQuiet_nil ?_
  intro W2 hb2
  have B3 := Lib.hid (B2.out.trans (hb2.mono B2.out.size))
  have x2' := cell_below hb2 X2
  have x3' := cell_below hb2 X3
  have y0' := cell_below hb2 Y0
  have y1' := cell_below hb2 Y1
  have y2' := cell_below hb2 Y2
  have y3' := cell_below hb2 Y3
  clear hb2 cu X0 X1 X2 X3 Y0 Y1 Y2 Y3 R2 R3
  go_wp2_with fail
  refine (twin_any _ (HM.out.below B3.out) HML.out.1 HML.out.2).mono ?_
  rintro e w5 ⟨v2, rfl, hlay, h2⟩
  have B5 : Hid (Below w.heap.size w w5) := B3.out.trans (h2.mono B3.out.size)
  have hlt := (List.getElem?_eq_some_iff.1 HGB.out).1
  obtain ⟨g2, cap, ps, rfl, _, _, _, _, _, _⟩ := hlay.form (by omega)
  have X2 := cell_below h2 x2'
  have X3 := cell_below h2 x3'
  have Y0 := cell_below h2 y0'
  have Y1 := cell_below h2 y1'
  have Y2 := cell_below h2 y2'
  have Y3 := cell_below h2 y3'
  have hlay2 := hlay.lower (base' := w.heap.size) B3.out.size
  obtain ⟨bb, oo, cc, hdr, hbb, hbg, hbl2, hvat, hfr⟩ := hlay2.at HGB.out HCE.out
  have k0 := hvat.1
  have k1 := hvat.2.1
  have k2 := hvat.2.2.1
  have k3 := hvat.2.2.2
  have f0 : w5.frozen? ⟨bb, oo + p.o.toNat * 4, none⟩ = false := hfr 0 (by omega)
  have f1 := hfr 1 (by omega)
  have f2 := hfr 2 (by omega)
  have f3 := hfr 3 (by omega)
  have HST := Lib.hid ((hlay2.below (Below.drew (Below.refl _ _))).store HGB.out x HCE.out hdr)
  clear hlay hlay2 h2 hvat hfr x2' x3' y0' y1' y2' y3'
  go_wp2_with fail
  go_region
  all_goals
    go_wp2
    go_ret2
    refine ⟨_, rfl, ?_, ?_⟩
    · unfold storeM
      rw [HEB.out]
      exact HST.out
    · exact (((B5.out.drew.setCell hbb _).setCell hbb _).setCell hbb _).setCell hbb _

theorem store_any {m : List Blk} {v : Value} (p x : Val) (w : World) (hm : BsAt w v m) :
    Calls Try.prog 14 #[v, .agg #[.int .u8 p.k, .int .i64 p.n, .int .i64 p.b, .int .i64 p.o], .agg #[.int .u8 x.k, .int .i64 x.n, .int .i64 x.b, .int .i64 x.o]] w (MadeP (storeR m p x) (storeI m p x) w) := by
  by_cases h : askedI m p true = 0
  · cases hx : isB m x
    · have e : storeI m p x = 2 := by simp [storeI, h, hx]
      rw [storeR, e, if_neg (by decide)]
      exact store_none p x w hm h hx
    by_cases hp : p.b = 0
    · have e : storeI m p x = 140 := by simp [storeI, h, hx, hp]
      rw [storeR, e, if_neg (by decide)]
      exact store_null p x w hm h hx hp
    obtain ⟨_, hk, his, _⟩ := askedI_zero h
    have hb0 : 0 < p.b := (in_of hk hp his).1
    by_cases hkx : (cellAt m p).k = x.k
    · cases ha : (blkAt m p).alive
      · have e : storeI m p x = 142 := by simp [storeI, h, hx, hp, hkx, ha]
        rw [storeR, e, if_neg (by decide)]
        exact store_dead p x w hm h hx hb0 hkx ha
      · by_cases hd : (blkAt m p).dep < deepB m x
        · have e : storeI m p x = 144 := by simp [storeI, h, hx, hp, hkx, ha, hd]
          rw [storeR, e, if_neg (by decide)]
          exact store_life p x w hm h hx hb0 hkx ⟨ha, hd⟩
        · have e : storeI m p x = 0 := by simp [storeI, h, hx, hp, hkx, ha, hd]
          rw [storeR, e, if_pos rfl]
          exact store_good p x w hm h hx hb0 hkx ⟨ha, hd⟩
    · have e : storeI m p x = 2 := by simp [storeI, h, hb0, hkx]
      rw [storeR, e, if_neg (by decide)]
      exact store_kind p x w hm h hx hb0 ⟨hkx, rfl⟩
  · have e : storeI m p x = askedI m p true := by simp [storeI, h]
    rw [storeR, e, if_neg h]
    exact store_bad p x _ w hm rfl h

end Go.Proofs.Ytmelamlngjflkaa

/- The contracts of the document's Stored and Store. -/
import Derived.Test.YtmelamlngjflkaaRows
import Derived.WalkKit
import Derived.ProofKit
import Derived.OpenShut
import Derived.Below
import Derived.Outline
import Derived.LoopTactic
import Derived.Test.YtmelamlngjflkaaRep
import Derived.Test.YtmelamlngjflkaaU
import Derived.Lib.Hide
import Derived.RegionTactic
import Derived.BigRegion
import Derived.Deep.RegionWith
import Derived.Test.YtmelamlngjflkaaP5
namespace Go.Proofs.Ytmelamlngjflkaa
open Go.ChangeShapes Go.WideShapes Go.ChangeAt Go.RowKit
set_option linter.unusedVariables false

set_option maxHeartbeats 1000000 in
theorem rstore_bad {m : List Blk} {v : Value} (p x : Val) (w : World) (hm : BsAt w v m) (h : askI m p false = 2) :
    Calls Try.prog 57 #[v, .agg #[.int .u8 p.k, .int .i64 p.n, .int .i64 p.b, .int .i64 p.o], .agg #[.int .u8 x.k, .int .i64 x.n, .int .i64 x.b, .int .i64 x.o]] w (MadeP [] 2 w) := by
  have HM := Lib.hid hm; clear hm
  have HI := Lib.hid h; clear h
  go_enter Try.func57, Try.ntmps57
  go_wp2_with fail
  (with_reducible refine (pointer_is p 2 _ (HM.out.below (((Below.refl _ _).alloc (Nat.le_refl _) _).alloc (by simp) _)) HI.out).mono ?_); rintro e w1 ⟨rfl, h1⟩
  obtain ⟨b1, z1⟩ := b3 h1
  have B1 := Lib.hid b1; clear b1
  have z0 : w.heap.size < w1.heap.size := by omega
  have x2 : w1.cell? ⟨w.heap.size, 2, none⟩ = some (.int .i64 p.b) := cell_below h1 (by simp)
  have x3 : w1.cell? ⟨w.heap.size, 3, none⟩ = some (.int .i64 p.o) := cell_below h1 (by simp)
  have y0 : w1.cell? ⟨w.heap.size + 1, 0, none⟩ = some (.int .u8 x.k) := cell_below h1 (by simp)
  have y1 : w1.cell? ⟨w.heap.size + 1, 1, none⟩ = some (.int .i64 x.n) := cell_below h1 (by simp)
  have y2 : w1.cell? ⟨w.heap.size + 1, 2, none⟩ = some (.int .i64 x.b) := cell_below h1 (by simp)
  have y3 : w1.cell? ⟨w.heap.size + 1, 3, none⟩ = some (.int .i64 x.o) := cell_below h1 (by simp)
  clear h1
  go_wp2_with fail
  have cu := upon_cell w1 w1.heap.size
  refine wp_region_upon (by kernel_rfl) (by kernel_rfl) ?_
  repeat (go_big_quiet_step (fail))
  refine wpQuiet_nil ?_
  intro W' hb'
  go_wp2
  go_ret2
  exact ⟨_, rfl, Lay.no _ _, B1.out.trans (hb'.mono B1.out.size)⟩

set_option maxHeartbeats 1000000 in
theorem rstore_none0 {m : List Blk} {v : Value} (p x : Val) (w : World) (hm : BsAt w v m) (h : askI m p false = 0) (hx : isB m x = false) :
    Calls Try.prog 57 #[v, .agg #[.int .u8 p.k, .int .i64 p.n, .int .i64 p.b, .int .i64 p.o], .agg #[.int .u8 x.k, .int .i64 x.n, .int .i64 x.b, .int .i64 x.o]] w (MadeP [] 2 w) := by
  have HM := Lib.hid hm; clear hm
  have HI := Lib.hid h; clear h
  have HX := Lib.hid hx; clear hx
  go_enter Try.func57, Try.ntmps57
  go_wp2_with fail
  (with_reducible refine (pointer_is p 0 _ (HM.out.below (((Below.refl _ _).alloc (Nat.le_refl _) _).alloc (by simp) _)) HI.out).mono ?_); rintro e w1 ⟨rfl, h1⟩
  obtain ⟨b1, z1⟩ := b3 h1
  have B1 := Lib.hid b1; clear b1
  have z0 : w.heap.size < w1.heap.size := by omega
  have x2 : w1.cell? ⟨w.heap.size, 2, none⟩ = some (.int .i64 p.b) := cell_below h1 (by simp)
  have x3 : w1.cell? ⟨w.heap.size, 3, none⟩ = some (.int .i64 p.o) := cell_below h1 (by simp)
  have y0 : w1.cell? ⟨w.heap.size + 1, 0, none⟩ = some (.int .u8 x.k) := cell_below h1 (by simp)
  have y1 : w1.cell? ⟨w.heap.size + 1, 1, none⟩ = some (.int .i64 x.n) := cell_below h1 (by simp)
  have y2 : w1.cell? ⟨w.heap.size + 1, 2, none⟩ = some (.int .i64 x.b) := cell_below h1 (by simp)
  have y3 : w1.cell? ⟨w.heap.size + 1, 3, none⟩ = some (.int .i64 x.o) := cell_below h1 (by simp)
  clear h1
  go_wp2_with fail
  have cu := upon_cell w1 w1.heap.size
  refine wp_region_upon (by kernel_rfl) (by kernel_rfl) ?_
  repeat (go_big_quiet_step (first | (go_at_call 50; exact calls_upon (ris_not x _ ((HM.out.below B1.out).below (upon_below _ _ _)) HX.out))))
  refine wpQuiet_nil ?_
  intro W' hb'
  go_wp2
  go_ret2
  exact ⟨_, rfl, Lay.no _ _, B1.out.trans (hb'.mono B1.out.size)⟩

set_option maxHeartbeats 1000000 in
theorem rstore_none140 {m : List Blk} {v : Value} (p x : Val) (w : World) (hm : BsAt w v m) (h : askI m p false = 140) (hx : isB m x = false) :
    Calls Try.prog 57 #[v, .agg #[.int .u8 p.k, .int .i64 p.n, .int .i64 p.b, .int .i64 p.o], .agg #[.int .u8 x.k, .int .i64 x.n, .int .i64 x.b, .int .i64 x.o]] w (MadeP [] 2 w) := by
  have HM := Lib.hid hm; clear hm
  have HI := Lib.hid h; clear h
  have HX := Lib.hid hx; clear hx
  go_enter Try.func57, Try.ntmps57
  go_wp2_with fail
  (with_reducible refine (pointer_is p 140 _ (HM.out.below (((Below.refl _ _).alloc (Nat.le_refl _) _).alloc (by simp) _)) HI.out).mono ?_); rintro e w1 ⟨rfl, h1⟩
  obtain ⟨b1, z1⟩ := b3 h1
  have B1 := Lib.hid b1; clear b1
  have z0 : w.heap.size < w1.heap.size := by omega
  have x2 : w1.cell? ⟨w.heap.size, 2, none⟩ = some (.int .i64 p.b) := cell_below h1 (by simp)
  have x3 : w1.cell? ⟨w.heap.size, 3, none⟩ = some (.int .i64 p.o) := cell_below h1 (by simp)
  have y0 : w1.cell? ⟨w.heap.size + 1, 0, none⟩ = some (.int .u8 x.k) := cell_below h1 (by simp)
  have y1 : w1.cell? ⟨w.heap.size + 1, 1, none⟩ = some (.int .i64 x.n) := cell_below h1 (by simp)
  have y2 : w1.cell? ⟨w.heap.size + 1, 2, none⟩ = some (.int .i64 x.b) := cell_below h1 (by simp)
  have y3 : w1.cell? ⟨w.heap.size + 1, 3, none⟩ = some (.int .i64 x.o) := cell_below h1 (by simp)
  clear h1
  go_wp2_with fail
  have cu := upon_cell w1 w1.heap.size
  refine wp_region_upon (by kernel_rfl) (by kernel_rfl) ?_
  repeat (go_big_quiet_step (first | (go_at_call 50; exact calls_upon (ris_not x _ ((HM.out.below B1.out).below (upon_below _ _ _)) HX.out))))
  refine wpQuiet_nil ?_
  intro W' hb'
  go_wp2
  go_ret2
  exact ⟨_, rfl, Lay.no _ _, B1.out.trans (hb'.mono B1.out.size)⟩

set_option maxHeartbeats 1000000 in
theorem rstore_null {m : List Blk} {v : Value} (p x : Val) (w : World) (hm : BsAt w v m) (h : askI m p false = 140) (hx : isB m x = true) :
    Calls Try.prog 57 #[v, .agg #[.int .u8 p.k, .int .i64 p.n, .int .i64 p.b, .int .i64 p.o], .agg #[.int .u8 x.k, .int .i64 x.n, .int .i64 x.b, .int .i64 x.o]] w (MadeP [] 140 w) := by
  have HM := Lib.hid hm; clear hm
  have HI := Lib.hid h; clear h
  have HX := Lib.hid hx; clear hx
  go_enter Try.func57, Try.ntmps57
  go_wp2_with fail
  (with_reducible refine (pointer_is p 140 _ (HM.out.below (((Below.refl _ _).alloc (Nat.le_refl _) _).alloc (by simp) _)) HI.out).mono ?_); rintro e w1 ⟨rfl, h1⟩
  obtain ⟨b1, z1⟩ := b3 h1
  have B1 := Lib.hid b1; clear b1
  have z0 : w.heap.size < w1.heap.size := by omega
  have x2 : w1.cell? ⟨w.heap.size, 2, none⟩ = some (.int .i64 p.b) := cell_below h1 (by simp)
  have x3 : w1.cell? ⟨w.heap.size, 3, none⟩ = some (.int .i64 p.o) := cell_below h1 (by simp)
  have y0 : w1.cell? ⟨w.heap.size + 1, 0, none⟩ = some (.int .u8 x.k) := cell_below h1 (by simp)
  have y1 : w1.cell? ⟨w.heap.size + 1, 1, none⟩ = some (.int .i64 x.n) := cell_below h1 (by simp)
  have y2 : w1.cell? ⟨w.heap.size + 1, 2, none⟩ = some (.int .i64 x.b) := cell_below h1 (by simp)
  have y3 : w1.cell? ⟨w.heap.size + 1, 3, none⟩ = some (.int .i64 x.o) := cell_below h1 (by simp)
  clear h1
  go_wp2_with fail
  have cu := upon_cell w1 w1.heap.size
  refine wp_region_upon (by kernel_rfl) (by kernel_rfl) ?_
  repeat (go_big_quiet_step (first | (go_at_call 50; exact calls_upon (ris_yes x _ ((HM.out.below B1.out).below (upon_below _ _ _)) HX.out))))
  refine wpQuiet_nil ?_
  intro W' hb'
  go_wp2
  go_ret2
  exact ⟨_, rfl, Lay.no _ _, B1.out.trans (hb'.mono B1.out.size)⟩

set_option maxHeartbeats 2000000 in
theorem rstore_kind {m : List Blk} {v : Value} (p x : Val) (w : World) (hm : BsAt w v m) (hy : mayM m = true) (h : askI m p false = 0) (hx : isB m x = true) (hb0 : 0 < p.b) (hh : ¬ (cellAt m p).k = x.k ∧ (blkAt m p).cells.length = (blkAt m p).cells.length) :
    Calls Try.prog 57 #[v, .agg #[.int .u8 p.k, .int .i64 p.n, .int .i64 p.b, .int .i64 p.o], .agg #[.int .u8 x.k, .int .i64 x.n, .int .i64 x.b, .int .i64 x.o]] w (MadeP ([]) 2 w) := by
  have hm' := hm
  obtain ⟨A, c, rfl, hl, hq⟩ := hm'
  clear hq
  obtain ⟨hk, his, hn⟩ := askI_zero h
  have hb : ¬ p.b = 0 := by omega
  obtain ⟨_, hbl, ho0, b, hgb, heb, hol, hce⟩ := in_of hk hb his
  rw [heb] at hh
  obtain ⟨g, og, rfl, hg, q0, q1, q2, q3, hv, q4, h5⟩ := hm.get hgb
  have h5' := h5
  obtain ⟨Ai, ci, rfl, hl5, hx5⟩ := h5'
  clear hx5
  obtain ⟨gi, oi, rfl, hgi, t0, _, _, _⟩ := h5.get hce
  have HML := Lib.hid (mayM_len hy)
  have HM := Lib.hid hm; clear hm
  have HI := Lib.hid h; clear h
  have HGB := Lib.hid hgb
  have HEB := Lib.hid heb
  have HCE := Lib.hid hce
  have HX := Lib.hid hx; clear hx
  have d1 : decide (0 < p.b) = true := by simpa using hb0
  have d2 : (p.b == 0) = false := by simp; omega
  clear hy hk his hn hb hgb heb hce h5
  have e1 : ((cellAt m p).k == x.k) = false := by simpa using hh.1
  have e2 : ((cellAt m p).k != x.k) = true := by simpa using hh.1
  clear hh
  go_enter Try.func57, Try.ntmps57
  go_wp2_with fail
  (with_reducible refine (pointer_is p 0 _ (HM.out.below (((Below.refl _ _).alloc (Nat.le_refl _) _).alloc (by simp) _)) HI.out).mono ?_); rintro e w1 ⟨rfl, h1⟩
  obtain ⟨b1, z1⟩ := b3 h1
  have B1 := Lib.hid b1; clear b1
  have z0 : w.heap.size < w1.heap.size := by omega
  have x0 : w1.cell? ⟨w.heap.size, 0, none⟩ = some (.int .u8 p.k) := cell_below h1 (by simp)
  have x1 : w1.cell? ⟨w.heap.size, 1, none⟩ = some (.int .i64 p.n) := cell_below h1 (by simp)
  have x2 : w1.cell? ⟨w.heap.size, 2, none⟩ = some (.int .i64 p.b) := cell_below h1 (by simp)
  have x3 : w1.cell? ⟨w.heap.size, 3, none⟩ = some (.int .i64 p.o) := cell_below h1 (by simp)
  have y0 : w1.cell? ⟨w.heap.size + 1, 0, none⟩ = some (.int .u8 x.k) := cell_below h1 (by simp)
  have y1 : w1.cell? ⟨w.heap.size + 1, 1, none⟩ = some (.int .i64 x.n) := cell_below h1 (by simp)
  have y2 : w1.cell? ⟨w.heap.size + 1, 2, none⟩ = some (.int .i64 x.b) := cell_below h1 (by simp)
  have y3 : w1.cell? ⟨w.heap.size + 1, 3, none⟩ = some (.int .i64 x.o) := cell_below h1 (by simp)
  clear h1
  have r2 := cell_below B1.out q2
  have r3 := cell_below B1.out q3
  have r4 := cell_below B1.out q4
  have u0 := cell_below B1.out t0
  have zg : g < w1.heap.size := by omega
  have zgi : gi < w1.heap.size := by omega
  clear q0 q1 q2 q3 q4 t0
  go_wp2_with fail
  have cu := upon_cell w1 w1.heap.size
  refine wp_region_upon (by kernel_rfl) (by kernel_rfl) ?_
  repeat (go_big_quiet_step (first | (go_at_call 50; exact calls_upon (ris_yes x _ ((HM.out.below B1.out).below (upon_below _ _ _)) HX.out))))
  refine wpQuiet_nil ?_
  intro W' hb'
  have B2 := Lib.hid (B1.out.trans (hb'.mono B1.out.size))
  clear hb' cu
  go_wp2
  go_ret2
  exact ⟨_, rfl, Lay.no _ _, B2.out⟩

set_option maxHeartbeats 2000000 in
theorem rstore_dead {m : List Blk} {v : Value} (p x : Val) (w : World) (hm : BsAt w v m) (hy : mayM m = true) (h : askI m p false = 0) (hx : isB m x = true) (hb0 : 0 < p.b) (hkx : (cellAt m p).k = x.k) (hh : (blkAt m p).alive = false) :
    Calls Try.prog 57 #[v, .agg #[.int .u8 p.k, .int .i64 p.n, .int .i64 p.b, .int .i64 p.o], .agg #[.int .u8 x.k, .int .i64 x.n, .int .i64 x.b, .int .i64 x.o]] w (MadeP ([]) 142 w) := by
  have hm' := hm
  obtain ⟨A, c, rfl, hl, hq⟩ := hm'
  clear hq
  obtain ⟨hk, his, hn⟩ := askI_zero h
  have hb : ¬ p.b = 0 := by omega
  obtain ⟨_, hbl, ho0, b, hgb, heb, hol, hce⟩ := in_of hk hb his
  rw [heb] at hh
  obtain ⟨g, og, rfl, hg, q0, q1, q2, q3, hv, q4, h5⟩ := hm.get hgb
  have h5' := h5
  obtain ⟨Ai, ci, rfl, hl5, hx5⟩ := h5'
  clear hx5
  obtain ⟨gi, oi, rfl, hgi, t0, _, _, _⟩ := h5.get hce
  have HML := Lib.hid (mayM_len hy)
  have HM := Lib.hid hm; clear hm
  have HI := Lib.hid h; clear h
  have HGB := Lib.hid hgb
  have HEB := Lib.hid heb
  have HCE := Lib.hid hce
  have HX := Lib.hid hx; clear hx
  have d1 : decide (0 < p.b) = true := by simpa using hb0
  have d2 : (p.b == 0) = false := by simp; omega
  clear hy hk his hn hb hgb heb hce h5
  rw [hkx] at t0
  rw [hh] at q3
  clear hh hkx
  go_enter Try.func57, Try.ntmps57
  go_wp2_with fail
  (with_reducible refine (pointer_is p 0 _ (HM.out.below (((Below.refl _ _).alloc (Nat.le_refl _) _).alloc (by simp) _)) HI.out).mono ?_); rintro e w1 ⟨rfl, h1⟩
  obtain ⟨b1, z1⟩ := b3 h1
  have B1 := Lib.hid b1; clear b1
  have z0 : w.heap.size < w1.heap.size := by omega
  have x0 : w1.cell? ⟨w.heap.size, 0, none⟩ = some (.int .u8 p.k) := cell_below h1 (by simp)
  have x1 : w1.cell? ⟨w.heap.size, 1, none⟩ = some (.int .i64 p.n) := cell_below h1 (by simp)
  have x2 : w1.cell? ⟨w.heap.size, 2, none⟩ = some (.int .i64 p.b) := cell_below h1 (by simp)
  have x3 : w1.cell? ⟨w.heap.size, 3, none⟩ = some (.int .i64 p.o) := cell_below h1 (by simp)
  have y0 : w1.cell? ⟨w.heap.size + 1, 0, none⟩ = some (.int .u8 x.k) := cell_below h1 (by simp)
  have y1 : w1.cell? ⟨w.heap.size + 1, 1, none⟩ = some (.int .i64 x.n) := cell_below h1 (by simp)
  have y2 : w1.cell? ⟨w.heap.size + 1, 2, none⟩ = some (.int .i64 x.b) := cell_below h1 (by simp)
  have y3 : w1.cell? ⟨w.heap.size + 1, 3, none⟩ = some (.int .i64 x.o) := cell_below h1 (by simp)
  clear h1
  have r2 := cell_below B1.out q2
  have r3 := cell_below B1.out q3
  have r4 := cell_below B1.out q4
  have u0 := cell_below B1.out t0
  have zg : g < w1.heap.size := by omega
  have zgi : gi < w1.heap.size := by omega
  clear q0 q1 q2 q3 q4 t0
  go_wp2_with fail
  have cu := upon_cell w1 w1.heap.size
  refine wp_region_upon (by kernel_rfl) (by kernel_rfl) ?_
  repeat (go_big_quiet_step (first | (go_at_call 50; exact calls_upon (ris_yes x _ ((HM.out.below B1.out).below (upon_below _ _ _)) HX.out))))
  refine wpQuiet_nil ?_
  intro W' hb'
  have B2 := Lib.hid (B1.out.trans (hb'.mono B1.out.size))
  have X0 := cell_below hb' x0
  have X1 := cell_below hb' x1
  have X2 := cell_below hb' x2
  have X3 := cell_below hb' x3
  have Y0 := cell_below hb' y0
  have Y1 := cell_below hb' y1
  have Y2 := cell_below hb' y2
  have Y3 := cell_below hb' y3
  have R2 := cell_below hb' r2
  have R3 := cell_below hb' r3
  have ZG := Nat.lt_of_lt_of_le zg hb'.size
  have Z0 := Nat.lt_of_lt_of_le z0 hb'.size
  have Z1 := Nat.lt_of_lt_of_le z1 hb'.size
  clear x0 x1 x2 x3 y0 y1 y2 y3 r2 r3 r4 u0 zg zgi z0 z1
  clear hb' cu
  go_wp2
  go_ret2
  exact ⟨_, rfl, Lay.no _ _, B2.out⟩

set_option maxHeartbeats 2000000 in
theorem rstore_life {m : List Blk} {v : Value} (p x : Val) (w : World) (hm : BsAt w v m) (hy : mayM m = true) (h : askI m p false = 0) (hx : isB m x = true) (hb0 : 0 < p.b) (hkx : (cellAt m p).k = x.k) (hh : (blkAt m p).alive = true ∧ (blkAt m p).dep < deepB m x) :
    Calls Try.prog 57 #[v, .agg #[.int .u8 p.k, .int .i64 p.n, .int .i64 p.b, .int .i64 p.o], .agg #[.int .u8 x.k, .int .i64 x.n, .int .i64 x.b, .int .i64 x.o]] w (MadeP ([]) 144 w) := by
  have hm' := hm
  obtain ⟨A, c, rfl, hl, hq⟩ := hm'
  clear hq
  obtain ⟨hk, his, hn⟩ := askI_zero h
  have hb : ¬ p.b = 0 := by omega
  obtain ⟨_, hbl, ho0, b, hgb, heb, hol, hce⟩ := in_of hk hb his
  rw [heb] at hh
  obtain ⟨g, og, rfl, hg, q0, q1, q2, q3, hv, q4, h5⟩ := hm.get hgb
  have h5' := h5
  obtain ⟨Ai, ci, rfl, hl5, hx5⟩ := h5'
  clear hx5
  obtain ⟨gi, oi, rfl, hgi, t0, _, _, _⟩ := h5.get hce
  have HML := Lib.hid (mayM_len hy)
  have HM := Lib.hid hm; clear hm
  have HI := Lib.hid h; clear h
  have HGB := Lib.hid hgb
  have HEB := Lib.hid heb
  have HCE := Lib.hid hce
  have HX := Lib.hid hx; clear hx
  have d1 : decide (0 < p.b) = true := by simpa using hb0
  have d2 : (p.b == 0) = false := by simp; omega
  clear hy hk his hn hb hgb heb hce h5
  obtain ⟨hh1, hh2⟩ := hh
  rw [hkx] at t0
  rw [hh1] at q3
  clear hh1 hkx
  go_enter Try.func57, Try.ntmps57
  go_wp2_with fail
  (with_reducible refine (pointer_is p 0 _ (HM.out.below (((Below.refl _ _).alloc (Nat.le_refl _) _).alloc (by simp) _)) HI.out).mono ?_); rintro e w1 ⟨rfl, h1⟩
  obtain ⟨b1, z1⟩ := b3 h1
  have B1 := Lib.hid b1; clear b1
  have z0 : w.heap.size < w1.heap.size := by omega
  have x0 : w1.cell? ⟨w.heap.size, 0, none⟩ = some (.int .u8 p.k) := cell_below h1 (by simp)
  have x1 : w1.cell? ⟨w.heap.size, 1, none⟩ = some (.int .i64 p.n) := cell_below h1 (by simp)
  have x2 : w1.cell? ⟨w.heap.size, 2, none⟩ = some (.int .i64 p.b) := cell_below h1 (by simp)
  have x3 : w1.cell? ⟨w.heap.size, 3, none⟩ = some (.int .i64 p.o) := cell_below h1 (by simp)
  have y0 : w1.cell? ⟨w.heap.size + 1, 0, none⟩ = some (.int .u8 x.k) := cell_below h1 (by simp)
  have y1 : w1.cell? ⟨w.heap.size + 1, 1, none⟩ = some (.int .i64 x.n) := cell_below h1 (by simp)
  have y2 : w1.cell? ⟨w.heap.size + 1, 2, none⟩ = some (.int .i64 x.b) := cell_below h1 (by simp)
  have y3 : w1.cell? ⟨w.heap.size + 1, 3, none⟩ = some (.int .i64 x.o) := cell_below h1 (by simp)
  clear h1
  have r2 := cell_below B1.out q2
  have r3 := cell_below B1.out q3
  have r4 := cell_below B1.out q4
  have u0 := cell_below B1.out t0
  have zg : g < w1.heap.size := by omega
  have zgi : gi < w1.heap.size := by omega
  clear q0 q1 q2 q3 q4 t0
  go_wp2_with fail
  have cu := upon_cell w1 w1.heap.size
  refine wp_region_upon (by kernel_rfl) (by kernel_rfl) ?_
  repeat (go_big_quiet_step (first | (go_at_call 50; exact calls_upon (ris_yes x _ ((HM.out.below B1.out).below (upon_below _ _ _)) HX.out))))
  refine wpQuiet_nil ?_
  intro W' hb'
  have B2 := Lib.hid (B1.out.trans (hb'.mono B1.out.size))
  have X0 := cell_below hb' x0
  have X1 := cell_below hb' x1
  have X2 := cell_below hb' x2
  have X3 := cell_below hb' x3
  have Y0 := cell_below hb' y0
  have Y1 := cell_below hb' y1
  have Y2 := cell_below hb' y2
  have Y3 := cell_below hb' y3
  have R2 := cell_below hb' r2
  have R3 := cell_below hb' r3
  have ZG := Nat.lt_of_lt_of_le zg hb'.size
  have Z0 := Nat.lt_of_lt_of_le z0 hb'.size
  have Z1 := Nat.lt_of_lt_of_le z1 hb'.size
  clear x0 x1 x2 x3 y0 y1 y2 y3 r2 r3 r4 u0 zg zgi z0 z1
  clear hb' cu
  go_wp2_with fail
  have cu := upon_cell W' W'.heap.size
  refine wp_region_upon (by kernel_rfl) (by kernel_rfl) ?_
  repeat (go_big_quiet_step (first | (go_at_call 51; exact calls_upon (rdeep_any x _ ((HM.out.below B2.out).below (upon_below _ _ _)) HX.out))))
  refine wpQuiet_nil ?_
  intro W2 hb2
  have B3 := Lib.hid (B2.out.trans (hb2.mono B2.out.size))
  clear hb2 cu
  go_wp2
  go_ret2
  exact ⟨_, rfl, Lay.no _ _, B3.out⟩

set_option maxHeartbeats 2000000 in
theorem rstore_good {m : List Blk} {v : Value} (p x : Val) (w : World) (hm : BsAt w v m) (hy : mayM m = true) (h : askI m p false = 0) (hx : isB m x = true) (hb0 : 0 < p.b) (hkx : (cellAt m p).k = x.k) (hh : (blkAt m p).alive = true ∧ ¬ (blkAt m p).dep < deepB m x) :
    Calls Try.prog 57 #[v, .agg #[.int .u8 p.k, .int .i64 p.n, .int .i64 p.b, .int .i64 p.o], .agg #[.int .u8 x.k, .int .i64 x.n, .int .i64 x.b, .int .i64 x.o]] w (MadeP (storeM m p x) 0 w) := by
  have hm' := hm
  obtain ⟨A, c, rfl, hl, hq⟩ := hm'
  clear hq
  obtain ⟨hk, his, hn⟩ := askI_zero h
  have hb : ¬ p.b = 0 := by omega
  obtain ⟨_, hbl, ho0, b, hgb, heb, hol, hce⟩ := in_of hk hb his
  rw [heb] at hh
  obtain ⟨g, og, rfl, hg, q0, q1, q2, q3, hv, q4, h5⟩ := hm.get hgb
  have h5' := h5
  obtain ⟨Ai, ci, rfl, hl5, hx5⟩ := h5'
  clear hx5
  obtain ⟨gi, oi, rfl, hgi, t0, _, _, _⟩ := h5.get hce
  have HML := Lib.hid (mayM_len hy)
  have HM := Lib.hid hm; clear hm
  have HI := Lib.hid h; clear h
  have HGB := Lib.hid hgb
  have HEB := Lib.hid heb
  have HCE := Lib.hid hce
  have HX := Lib.hid hx; clear hx
  have d1 : decide (0 < p.b) = true := by simpa using hb0
  have d2 : (p.b == 0) = false := by simp; omega
  clear hy hk his hn hb hgb heb hce h5
  obtain ⟨hh1, hh2⟩ := hh
  rw [hkx] at t0
  rw [hh1] at q3
  clear hh1 hkx
  go_enter Try.func57, Try.ntmps57
  go_wp2_with fail
  (with_reducible refine (pointer_is p 0 _ (HM.out.below (((Below.refl _ _).alloc (Nat.le_refl _) _).alloc (by simp) _)) HI.out).mono ?_); rintro e w1 ⟨rfl, h1⟩
  obtain ⟨b1, z1⟩ := b3 h1
  have B1 := Lib.hid b1; clear b1
  have z0 : w.heap.size < w1.heap.size := by omega
  have x0 : w1.cell? ⟨w.heap.size, 0, none⟩ = some (.int .u8 p.k) := cell_below h1 (by simp)
  have x1 : w1.cell? ⟨w.heap.size, 1, none⟩ = some (.int .i64 p.n) := cell_below h1 (by simp)
  have x2 : w1.cell? ⟨w.heap.size, 2, none⟩ = some (.int .i64 p.b) := cell_below h1 (by simp)
  have x3 : w1.cell? ⟨w.heap.size, 3, none⟩ = some (.int .i64 p.o) := cell_below h1 (by simp)
  have y0 : w1.cell? ⟨w.heap.size + 1, 0, none⟩ = some (.int .u8 x.k) := cell_below h1 (by simp)
  have y1 : w1.cell? ⟨w.heap.size + 1, 1, none⟩ = some (.int .i64 x.n) := cell_below h1 (by simp)
  have y2 : w1.cell? ⟨w.heap.size + 1, 2, none⟩ = some (.int .i64 x.b) := cell_below h1 (by simp)
  have y3 : w1.cell? ⟨w.heap.size + 1, 3, none⟩ = some (.int .i64 x.o) := cell_below h1 (by simp)
  clear h1
  have r2 := cell_below B1.out q2
  have r3 := cell_below B1.out q3
  have r4 := cell_below B1.out q4
  have u0 := cell_below B1.out t0
  have zg : g < w1.heap.size := by omega
  have zgi : gi < w1.heap.size := by omega
  clear q0 q1 q2 q3 q4 t0
  go_wp2_with fail
  have cu := upon_cell w1 w1.heap.size
  refine wp_region_upon (by kernel_rfl) (by kernel_rfl) ?_
  repeat (go_big_quiet_step (first | (go_at_call 50; exact calls_upon (ris_yes x _ ((HM.out.below B1.out).below (upon_below _ _ _)) HX.out))))
  refine wpQuiet_nil ?_
  intro W' hb'
  have B2 := Lib.hid (B1.out.trans (hb'.mono B1.out.size))
  have X0 := cell_below hb' x0
  have X1 := cell_below hb' x1
  have X2 := cell_below hb' x2
  have X3 := cell_below hb' x3
  have Y0 := cell_below hb' y0
  have Y1 := cell_below hb' y1
  have Y2 := cell_below hb' y2
  have Y3 := cell_below hb' y3
  have R2 := cell_below hb' r2
  have R3 := cell_below hb' r3
  have ZG := Nat.lt_of_lt_of_le zg hb'.size
  have Z0 := Nat.lt_of_lt_of_le z0 hb'.size
  have Z1 := Nat.lt_of_lt_of_le z1 hb'.size
  clear x0 x1 x2 x3 y0 y1 y2 y3 r2 r3 r4 u0 zg zgi z0 z1
  clear hb' cu
  go_wp2_with fail
  have cu := upon_cell W' W'.heap.size
  refine wp_region_upon (by kernel_rfl) (by kernel_rfl) ?_
  repeat (go_big_quiet_step (first | (go_at_call 51; exact calls_upon (rdeep_any x _ ((HM.out.below B2.out).below (upon_below _ _ _)) HX.out))))
  refine wpQuiet_nil ?_
  intro W2 hb2
  have B3 := Lib.hid (B2.out.trans (hb2.mono B2.out.size))
  have x2' := cell_below hb2 X2
  have x3' := cell_below hb2 X3
  have y0' := cell_below hb2 Y0
  have y1' := cell_below hb2 Y1
  have y2' := cell_below hb2 Y2
  have y3' := cell_below hb2 Y3
  clear hb2 cu X0 X1 X2 X3 Y0 Y1 Y2 Y3 R2 R3
  go_wp2_with fail
  refine (rtwin_any _ (HM.out.below B3.out) HML.out.1 HML.out.2).mono ?_
  rintro e w5 ⟨v2, rfl, hlay, h2⟩
  have B5 : Hid (Below w.heap.size w w5) := B3.out.trans (h2.mono B3.out.size)
  have hlt := (List.getElem?_eq_some_iff.1 HGB.out).1
  obtain ⟨g2, cap, ps, rfl, _, _, _, _, _, _⟩ := hlay.form (by omega)
  have X2 := cell_below h2 x2'
  have X3 := cell_below h2 x3'
  have Y0 := cell_below h2 y0'
  have Y1 := cell_below h2 y1'
  have Y2 := cell_below h2 y2'
  have Y3 := cell_below h2 y3'
  have hlay2 := hlay.lower (base' := w.heap.size) B3.out.size
  obtain ⟨bb, oo, cc, hdr, hbb, hbg, hbl2, hvat, hfr⟩ := hlay2.at HGB.out HCE.out
  have k0 := hvat.1
  have k1 := hvat.2.1
  have k2 := hvat.2.2.1
  have k3 := hvat.2.2.2
  have f0 : w5.frozen? ⟨bb, oo + p.o.toNat * 4, none⟩ = false := hfr 0 (by omega)
  have f1 := hfr 1 (by omega)
  have f2 := hfr 2 (by omega)
  have f3 := hfr 3 (by omega)
  have HST := Lib.hid ((hlay2.below (Below.drew (Below.refl _ _))).store HGB.out x HCE.out hdr)
  clear hlay hlay2 h2 hvat hfr x2' x3' y0' y1' y2' y3'
  go_wp2_with fail
  go_region
  all_goals
    go_wp2
    go_ret2
    refine ⟨_, rfl, ?_, ?_⟩
    · unfold storeM
      rw [HEB.out]
      exact HST.out
    · exact (((B5.out.drew.setCell hbb _).setCell hbb _).setCell hbb _).setCell hbb _


theorem ask_split {m : List Blk} {p : Val} : (askI m p false = 2 ∧ askI m p true = 2) ∨ (askI m p false = 140 ∧ askI m p true = 0 ∧ p.b = 0) ∨ (askI m p false = 0 ∧ askI m p true = 0 ∧ ¬ p.b = 0) := by
  by_cases h : p.k = 2 ∧ isB m p = true
  · by_cases hb : p.b = 0
    · right; left
      refine ⟨?_, ?_, hb⟩
      · unfold askI; rw [if_neg (by simp [h]), if_pos ⟨hb, rfl⟩]
      · unfold askI; rw [if_neg (by simp [h]), if_neg (by simp)]
    · right; right
      refine ⟨?_, ?_, hb⟩
      · unfold askI; rw [if_neg (by simp [h]), if_neg (by simp [hb])]
      · unfold askI; rw [if_neg (by simp [h]), if_neg (by simp)]
  · left
    constructor <;> (unfold askI; rw [if_pos h])

theorem rstored_any {m : List Blk} {v : Value} (p x : Val) (w : World) (hm : BsAt w v m) (hy : mayM m = true) :
    Calls Try.prog 57 #[v, .agg #[.int .u8 p.k, .int .i64 p.n, .int .i64 p.b, .int .i64 p.o], .agg #[.int .u8 x.k, .int .i64 x.n, .int .i64 x.b, .int .i64 x.o]] w (MadeP (storeR m p x) (storeI m p x) w) := by
  have ea := asked_may (p := p) (n := true) hy
  rcases ask_split (m := m) (p := p) with ⟨h, h2⟩ | ⟨h, h2, hb⟩ | ⟨h, h2, hb⟩
  · have e : storeI m p x = 2 := by simp [storeI, ea, h2]
    rw [storeR, e, if_neg (by decide)]
    exact rstore_bad p x w hm h
  · have h0 : askedI m p true = 0 := ea.trans h2
    cases hx : isB m x
    · have e : storeI m p x = 2 := by simp [storeI, h0, hx]
      rw [storeR, e, if_neg (by decide)]
      exact rstore_none140 p x w hm h hx
    · have e : storeI m p x = 140 := by simp [storeI, h0, hx, hb]
      rw [storeR, e, if_neg (by decide)]
      exact rstore_null p x w hm h hx
  · have h0 : askedI m p true = 0 := ea.trans h2
    cases hx : isB m x
    · have e : storeI m p x = 2 := by simp [storeI, h0, hx]
      rw [storeR, e, if_neg (by decide)]
      exact rstore_none0 p x w hm h hx
    obtain ⟨hk, his, _⟩ := askI_zero h
    have hb0 : 0 < p.b := (in_of hk hb his).1
    by_cases hkx : (cellAt m p).k = x.k
    · cases ha : (blkAt m p).alive
      · have e : storeI m p x = 142 := by simp [storeI, h0, hx, hb, hkx, ha]
        rw [storeR, e, if_neg (by decide)]
        exact rstore_dead p x w hm hy h hx hb0 hkx ha
      · by_cases hd : (blkAt m p).dep < deepB m x
        · have e : storeI m p x = 144 := by simp [storeI, h0, hx, hb, hkx, ha, hd]
          rw [storeR, e, if_neg (by decide)]
          exact rstore_life p x w hm hy h hx hb0 hkx ⟨ha, hd⟩
        · have e : storeI m p x = 0 := by simp [storeI, h0, hx, hb, hkx, ha, hd]
          rw [storeR, e, if_pos rfl]
          exact rstore_good p x w hm hy h hx hb0 hkx ⟨ha, hd⟩
    · have e : storeI m p x = 2 := by simp [storeI, h0, hb0, hkx]
      rw [storeR, e, if_neg (by decide)]
      exact rstore_kind p x w hm hy h hx hb0 ⟨hkx, rfl⟩

theorem rstore_any {m : List Blk} {v : Value} (p x : Val) (w : World) (hm : BsAt w v m) :
    Calls Try.prog 34 #[v, .agg #[.int .u8 p.k, .int .i64 p.n, .int .i64 p.b, .int .i64 p.o], .agg #[.int .u8 x.k, .int .i64 x.n, .int .i64 x.b, .int .i64 x.o]] w (MadeP (storeR m p x) (storeI m p x) w) := by
  have HM := Lib.hid hm; clear hm
  cases h : mayM m
  · have e : storeI m p x = 8 := by simp [storeI, askedI_no h]
    rw [storeR, e, if_neg (by decide)]
    have HY := Lib.hid h; clear h e
    go_enter Try.func34, Try.ntmps34
    go_wp2_with fail
    (with_reducible refine (rmay_at (b := false) _ (HM.out.below (((Below.refl _ _).alloc (Nat.le_refl _) _).alloc (by simp) _)) HY.out).mono ?_); rintro e w1 ⟨rfl, h1⟩
    have H1 := Lib.hid (b2 h1); clear h1
    go_wp2
    go_ret2
    exact ⟨_, rfl, Lay.no _ _, H1.out⟩
  · have HY := Lib.hid h; clear h
    go_enter Try.func34, Try.ntmps34
    go_wp2_with fail
    (with_reducible refine (rmay_at (b := true) _ (HM.out.below (((Below.refl _ _).alloc (Nat.le_refl _) _).alloc (by simp) _)) HY.out).mono ?_); rintro e w1 ⟨rfl, h1⟩
    obtain ⟨b1, z1⟩ := b3 h1
    have B1 := Lib.hid b1; clear b1
    have z0 : w.heap.size < w1.heap.size := by omega
    have x0 : w1.cell? ⟨w.heap.size, 0, none⟩ = some (.int .u8 p.k) := cell_below h1 (by simp)
    have x1 : w1.cell? ⟨w.heap.size, 1, none⟩ = some (.int .i64 p.n) := cell_below h1 (by simp)
    have x2 : w1.cell? ⟨w.heap.size, 2, none⟩ = some (.int .i64 p.b) := cell_below h1 (by simp)
    have x3 : w1.cell? ⟨w.heap.size, 3, none⟩ = some (.int .i64 p.o) := cell_below h1 (by simp)
    have y0 : w1.cell? ⟨w.heap.size + 1, 0, none⟩ = some (.int .u8 x.k) := cell_below h1 (by simp)
    have y1 : w1.cell? ⟨w.heap.size + 1, 1, none⟩ = some (.int .i64 x.n) := cell_below h1 (by simp)
    have y2 : w1.cell? ⟨w.heap.size + 1, 2, none⟩ = some (.int .i64 x.b) := cell_below h1 (by simp)
    have y3 : w1.cell? ⟨w.heap.size + 1, 3, none⟩ = some (.int .i64 x.o) := cell_below h1 (by simp)
    clear h1
    go_wp2_with fail
    (with_reducible refine (rstored_any p x _ (HM.out.below B1.out) HY.out).mono ?_); rintro e w2 ⟨v2, rfl, lay, h2⟩
    have LY := Lib.hid (lay.lower (base' := w.heap.size) B1.out.size)
    have B2 := Lib.hid (B1.out.trans (h2.mono B1.out.size))
    clear lay h2 x0 x1 x2 x3 y0 y1 y2 y3 z0 z1
    go_wp2
    go_ret2
    exact ⟨_, rfl, LY.out, B2.out⟩

end Go.Proofs.Ytmelamlngjflkaa

/- The contracts of Move, Depth and Holds; by plain functions. -/
import Derived.Test.YtmelamlngjflkaaRows
import Derived.WalkKit
import Derived.ProofKit
import Derived.OpenShut
import Derived.Below
import Derived.Outline
import Derived.LoopTactic
import Derived.Test.YtmelamlngjflkaaRep
import Derived.Test.YtmelamlngjflkaaU
import Derived.Lib.Hide
import Derived.Test.YtmelamlngjflkaaD
namespace Go.Proofs.Ytmelamlngjflkaa
open Go.ChangeShapes Go.WideShapes Go.ChangeAt Go.RowKit
set_option linter.unusedVariables false

theorem move_bad {m : List Blk} {v : Value} (p : Val) (y i : Int) (w : World) (hm : BsAt w v m) (h : askedI m p false = i) (hi : ¬ i = 0) :
    Calls Try.prog 21 #[v, .agg #[.int .u8 p.k, .int .i64 p.n, .int .i64 p.b, .int .i64 p.o], .int .i64 y] w fun e w' => e = .returned (.tuple #[.agg #[.int .u8 0, .int .i64 0, .int .i64 0, .int .i64 0], .int .i64 i]) ∧ Below w.heap.size w w' := by
  have HM := Lib.hid hm; clear hm
  have HI := Lib.hid h; clear h
  have e1 : (i == 0) = false := by simpa using hi
  have e2 : (i != 0) = true := by simpa using hi
  clear hi
  go_enter Try.func21, Try.ntmps21
  go_wp2_with fail
  (with_reducible refine (asked_is p false i _ (HM.out.below (((Below.refl _ _).alloc (Nat.le_refl _) _).alloc (by simp) _)) HI.out).mono ?_); rintro e w1 ⟨rfl, h1⟩
  obtain ⟨c1, f1⟩ := bcell h1
  have H1 := Lib.hid h1; clear h1
  go_wp2
  exact bodyPost_ret (v := .tuple #[.agg #[.int .u8 0, .int .i64 0, .int .i64 0, .int .i64 0], .int .i64 i]) (by simp [results, Try.results21, go_sem, c1]) rfl ⟨rfl, ((((b2 H1.out).setCell (by simp) _).setCell (by simp) _).setCell (by simp) _).setCell (by simp) _⟩

set_option maxHeartbeats 1000000 in
theorem move_low {m : List Blk} {v : Value} (p : Val) (y : Int) (hy1 : -9223372036854775808 ≤ y) (hy2 : y ≤ 9223372036854775807) (w : World) (hm : BsAt w v m) (h : askedI m p false = 0) (hh : y < -p.o ∧ (blkAt m p).cells.length = (blkAt m p).cells.length) :
    Calls Try.prog 21 #[v, .agg #[.int .u8 p.k, .int .i64 p.n, .int .i64 p.b, .int .i64 p.o], .int .i64 y] w fun e w' => e = .returned (.tuple #[.agg #[.int .u8 0, .int .i64 0, .int .i64 0, .int .i64 0], .int .i64 2]) ∧ Below w.heap.size w w' := by
  have hm' := hm
  obtain ⟨A, c, rfl, hl, hq⟩ := hm'
  clear hq
  obtain ⟨hy, hk, his, hn⟩ := askedI_zero h
  have hb : ¬ p.b = 0 := by simpa using hn
  obtain ⟨hb0, hbl, ho0, b, hgb, heb, hol, hce⟩ := in_of hk hb his
  rw [heb] at hh
  obtain ⟨g, og, rfl, hg, q0, q1, q2, q3, hv, q4, h5⟩ := hm.get hgb
  obtain ⟨Ai, ci, rfl, hl5, hx5⟩ := h5
  clear hx5
  have HM := Lib.hid hm; clear hm
  have HI := Lib.hid h; clear h
  clear hy hk his hn hb hgb heb hce
  have hlt := hh.1
  clear hh
  have d1 : decide (y < -p.o) = true := by simpa using hlt
  go_enter Try.func21, Try.ntmps21
  go_wp2_with fail
  (with_reducible refine (asked_is p false 0 _ (HM.out.below (((Below.refl _ _).alloc (Nat.le_refl _) _).alloc (by simp) _)) HI.out).mono ?_); rintro e w1 ⟨rfl, h1⟩
  have B1 := Lib.hid (b2 h1)
  have z1 : w.heap.size + 1 < w1.heap.size := by have := h1.size; simp at this; omega
  have z0 : w.heap.size < w1.heap.size := by omega
  have r4 := cell_below B1.out q4
  have zg : g < w1.heap.size := by omega
  clear q0 q1 q2 q3 q4
  have x0 : w1.cell? ⟨w.heap.size, 0, none⟩ = some (.int .u8 p.k) := cell_below h1 (by simp)
  have x1 : w1.cell? ⟨w.heap.size, 1, none⟩ = some (.int .i64 p.n) := cell_below h1 (by simp)
  have x2 : w1.cell? ⟨w.heap.size, 2, none⟩ = some (.int .i64 p.b) := cell_below h1 (by simp)
  have x3 : w1.cell? ⟨w.heap.size, 3, none⟩ = some (.int .i64 p.o) := cell_below h1 (by simp)
  have y0 : w1.cell? ⟨w.heap.size + 1, 0, none⟩ = some (.int .u8 0) := cell_below h1 (by simp)
  have y1 : w1.cell? ⟨w.heap.size + 1, 1, none⟩ = some (.int .i64 0) := cell_below h1 (by simp)
  have y2 : w1.cell? ⟨w.heap.size + 1, 2, none⟩ = some (.int .i64 0) := cell_below h1 (by simp)
  have y3 : w1.cell? ⟨w.heap.size + 1, 3, none⟩ = some (.int .i64 0) := cell_below h1 (by simp)
  have f0 : ∀ j, w1.frozen? ⟨w.heap.size, j, none⟩ = false := fun j => by have := (bcell h1).2 w.heap.size j (by simp; omega); rw [this]; simp
  have f1 : ∀ j, w1.frozen? ⟨w.heap.size + 1, j, none⟩ = false := fun j => by have := (bcell h1).2 (w.heap.size + 1) j (by simp); rw [this]; simp
  clear h1
  go_wp2_with fail
  have cu := upon_cell w1 w1.heap.size
  refine wp_region_upon (by kernel_rfl) (by kernel_rfl) ?_
  repeat (go_big_quiet_step (first | fail))
  refine wpQuiet_nil ?_
  intro W' hb'
  have B2 := Lib.hid (B1.out.trans (hb'.mono B1.out.size))
  have HB' := Lib.hid hb'; clear hb'
  have v0 := cell_below HB'.out x0
  have v1 := cell_below HB'.out x1
  have v2 := cell_below HB'.out x2
  have v3 := cell_below HB'.out x3
  have u0 := cell_below HB'.out y0
  have u1 := cell_below HB'.out y1
  have u2 := cell_below HB'.out y2
  have u3 := cell_below HB'.out y3
  have k0 : ∀ j, W'.frozen? ⟨w.heap.size, j, none⟩ = false := fun j => ((bcell HB'.out).2 _ j z0).trans (f0 j)
  have k1 : ∀ j, W'.frozen? ⟨w.heap.size + 1, j, none⟩ = false := fun j => ((bcell HB'.out).2 _ j z1).trans (f1 j)
  clear x0 x1 x2 x3 y0 y1 y2 y3 f0 f1 cu r4 zg
  go_wp2
  refine bodyPost_ret (v := .tuple #[.agg #[.int .u8 0, .int .i64 0, .int .i64 0, .int .i64 0], .int .i64 2]) (by simp [results, Try.results21, go_sem, *]) rfl ⟨rfl, ?_⟩
  repeat (first | exact B2.out | refine Below.setCell ?_ (by simp) _ | refine Below.alloc ?_ (by simp; omega) _)

set_option maxHeartbeats 1000000 in
theorem move_high {m : List Blk} {v : Value} (p : Val) (y : Int) (hy1 : -9223372036854775808 ≤ y) (hy2 : y ≤ 9223372036854775807) (w : World) (hm : BsAt w v m) (h : askedI m p false = 0) (hlo : ¬ y < -p.o) (hh : (blkAt m p).cells.length - p.o ≤ y) :
    Calls Try.prog 21 #[v, .agg #[.int .u8 p.k, .int .i64 p.n, .int .i64 p.b, .int .i64 p.o], .int .i64 y] w fun e w' => e = .returned (.tuple #[.agg #[.int .u8 0, .int .i64 0, .int .i64 0, .int .i64 0], .int .i64 2]) ∧ Below w.heap.size w w' := by
  have hm' := hm
  obtain ⟨A, c, rfl, hl, hq⟩ := hm'
  clear hq
  obtain ⟨hy, hk, his, hn⟩ := askedI_zero h
  have hb : ¬ p.b = 0 := by simpa using hn
  obtain ⟨hb0, hbl, ho0, b, hgb, heb, hol, hce⟩ := in_of hk hb his
  rw [heb] at hh
  obtain ⟨g, og, rfl, hg, q0, q1, q2, q3, hv, q4, h5⟩ := hm.get hgb
  obtain ⟨Ai, ci, rfl, hl5, hx5⟩ := h5
  clear hx5
  have HM := Lib.hid hm; clear hm
  have HI := Lib.hid h; clear h
  clear hy hk his hn hb hgb heb hce
  have d1 : decide (y < -p.o) = false := by simpa using hlo
  go_enter Try.func21, Try.ntmps21
  go_wp2_with fail
  (with_reducible refine (asked_is p false 0 _ (HM.out.below (((Below.refl _ _).alloc (Nat.le_refl _) _).alloc (by simp) _)) HI.out).mono ?_); rintro e w1 ⟨rfl, h1⟩
  have B1 := Lib.hid (b2 h1)
  have z1 : w.heap.size + 1 < w1.heap.size := by have := h1.size; simp at this; omega
  have z0 : w.heap.size < w1.heap.size := by omega
  have r4 := cell_below B1.out q4
  have zg : g < w1.heap.size := by omega
  clear q0 q1 q2 q3 q4
  have x0 : w1.cell? ⟨w.heap.size, 0, none⟩ = some (.int .u8 p.k) := cell_below h1 (by simp)
  have x1 : w1.cell? ⟨w.heap.size, 1, none⟩ = some (.int .i64 p.n) := cell_below h1 (by simp)
  have x2 : w1.cell? ⟨w.heap.size, 2, none⟩ = some (.int .i64 p.b) := cell_below h1 (by simp)
  have x3 : w1.cell? ⟨w.heap.size, 3, none⟩ = some (.int .i64 p.o) := cell_below h1 (by simp)
  have y0 : w1.cell? ⟨w.heap.size + 1, 0, none⟩ = some (.int .u8 0) := cell_below h1 (by simp)
  have y1 : w1.cell? ⟨w.heap.size + 1, 1, none⟩ = some (.int .i64 0) := cell_below h1 (by simp)
  have y2 : w1.cell? ⟨w.heap.size + 1, 2, none⟩ = some (.int .i64 0) := cell_below h1 (by simp)
  have y3 : w1.cell? ⟨w.heap.size + 1, 3, none⟩ = some (.int .i64 0) := cell_below h1 (by simp)
  have f0 : ∀ j, w1.frozen? ⟨w.heap.size, j, none⟩ = false := fun j => by have := (bcell h1).2 w.heap.size j (by simp; omega); rw [this]; simp
  have f1 : ∀ j, w1.frozen? ⟨w.heap.size + 1, j, none⟩ = false := fun j => by have := (bcell h1).2 (w.heap.size + 1) j (by simp); rw [this]; simp
  clear h1
  go_wp2_with fail
  have cu := upon_cell w1 w1.heap.size
  refine wp_region_upon (by kernel_rfl) (by kernel_rfl) ?_
  repeat (go_big_quiet_step (first | fail))
  refine wpQuiet_nil ?_
  intro W' hb'
  have B2 := Lib.hid (B1.out.trans (hb'.mono B1.out.size))
  have HB' := Lib.hid hb'; clear hb'
  have v0 := cell_below HB'.out x0
  have v1 := cell_below HB'.out x1
  have v2 := cell_below HB'.out x2
  have v3 := cell_below HB'.out x3
  have u0 := cell_below HB'.out y0
  have u1 := cell_below HB'.out y1
  have u2 := cell_below HB'.out y2
  have u3 := cell_below HB'.out y3
  have k0 : ∀ j, W'.frozen? ⟨w.heap.size, j, none⟩ = false := fun j => ((bcell HB'.out).2 _ j z0).trans (f0 j)
  have k1 : ∀ j, W'.frozen? ⟨w.heap.size + 1, j, none⟩ = false := fun j => ((bcell HB'.out).2 _ j z1).trans (f1 j)
  clear x0 x1 x2 x3 y0 y1 y2 y3 f0 f1 cu r4 zg
  go_wp2
  refine bodyPost_ret (v := .tuple #[.agg #[.int .u8 0, .int .i64 0, .int .i64 0, .int .i64 0], .int .i64 2]) (by simp [results, Try.results21, go_sem, *]) rfl ⟨rfl, ?_⟩
  repeat (first | exact B2.out | refine Below.setCell ?_ (by simp) _ | refine Below.alloc ?_ (by simp; omega) _)

set_option maxHeartbeats 1000000 in
theorem move_good {m : List Blk} {v : Value} (p : Val) (y : Int) (hy1 : -9223372036854775808 ≤ y) (hy2 : y ≤ 9223372036854775807) (w : World) (hm : BsAt w v m) (h : askedI m p false = 0) (hlo : ¬ y < -p.o) (hh : ¬ (blkAt m p).cells.length - p.o ≤ y) :
    Calls Try.prog 21 #[v, .agg #[.int .u8 p.k, .int .i64 p.n, .int .i64 p.b, .int .i64 p.o], .int .i64 y] w fun e w' => e = .returned (.tuple #[.agg #[.int .u8 p.k, .int .i64 p.n, .int .i64 p.b, .int .i64 (p.o + y)], .int .i64 0]) ∧ Below w.heap.size w w' := by
  have hm' := hm
  obtain ⟨A, c, rfl, hl, hq⟩ := hm'
  clear hq
  obtain ⟨hy, hk, his, hn⟩ := askedI_zero h
  have hb : ¬ p.b = 0 := by simpa using hn
  obtain ⟨hb0, hbl, ho0, b, hgb, heb, hol, hce⟩ := in_of hk hb his
  rw [heb] at hh
  obtain ⟨g, og, rfl, hg, q0, q1, q2, q3, hv, q4, h5⟩ := hm.get hgb
  obtain ⟨Ai, ci, rfl, hl5, hx5⟩ := h5
  clear hx5
  have HM := Lib.hid hm; clear hm
  have HI := Lib.hid h; clear h
  clear hy hk his hn hb hgb heb hce
  have d1 : decide (y < -p.o) = false := by simpa using hlo
  go_enter Try.func21, Try.ntmps21
  go_wp2_with fail
  (with_reducible refine (asked_is p false 0 _ (HM.out.below (((Below.refl _ _).alloc (Nat.le_refl _) _).alloc (by simp) _)) HI.out).mono ?_); rintro e w1 ⟨rfl, h1⟩
  have B1 := Lib.hid (b2 h1)
  have z1 : w.heap.size + 1 < w1.heap.size := by have := h1.size; simp at this; omega
  have z0 : w.heap.size < w1.heap.size := by omega
  have r4 := cell_below B1.out q4
  have zg : g < w1.heap.size := by omega
  clear q0 q1 q2 q3 q4
  have x0 : w1.cell? ⟨w.heap.size, 0, none⟩ = some (.int .u8 p.k) := cell_below h1 (by simp)
  have x1 : w1.cell? ⟨w.heap.size, 1, none⟩ = some (.int .i64 p.n) := cell_below h1 (by simp)
  have x2 : w1.cell? ⟨w.heap.size, 2, none⟩ = some (.int .i64 p.b) := cell_below h1 (by simp)
  have x3 : w1.cell? ⟨w.heap.size, 3, none⟩ = some (.int .i64 p.o) := cell_below h1 (by simp)
  have y0 : w1.cell? ⟨w.heap.size + 1, 0, none⟩ = some (.int .u8 0) := cell_below h1 (by simp)
  have y1 : w1.cell? ⟨w.heap.size + 1, 1, none⟩ = some (.int .i64 0) := cell_below h1 (by simp)
  have y2 : w1.cell? ⟨w.heap.size + 1, 2, none⟩ = some (.int .i64 0) := cell_below h1 (by simp)
  have y3 : w1.cell? ⟨w.heap.size + 1, 3, none⟩ = some (.int .i64 0) := cell_below h1 (by simp)
  have f0 : ∀ j, w1.frozen? ⟨w.heap.size, j, none⟩ = false := fun j => by have := (bcell h1).2 w.heap.size j (by simp; omega); rw [this]; simp
  have f1 : ∀ j, w1.frozen? ⟨w.heap.size + 1, j, none⟩ = false := fun j => by have := (bcell h1).2 (w.heap.size + 1) j (by simp); rw [this]; simp
  clear h1
  go_wp2_with fail
  have cu := upon_cell w1 w1.heap.size
  refine wp_region_upon (by kernel_rfl) (by kernel_rfl) ?_
  repeat (go_big_quiet_step (first | fail))
  refine wpQuiet_nil ?_
  intro W' hb'
  have B2 := Lib.hid (B1.out.trans (hb'.mono B1.out.size))
  have HB' := Lib.hid hb'; clear hb'
  have v0 := cell_below HB'.out x0
  have v1 := cell_below HB'.out x1
  have v2 := cell_below HB'.out x2
  have v3 := cell_below HB'.out x3
  have u0 := cell_below HB'.out y0
  have u1 := cell_below HB'.out y1
  have u2 := cell_below HB'.out y2
  have u3 := cell_below HB'.out y3
  have k0 : ∀ j, W'.frozen? ⟨w.heap.size, j, none⟩ = false := fun j => ((bcell HB'.out).2 _ j z0).trans (f0 j)
  have k1 : ∀ j, W'.frozen? ⟨w.heap.size + 1, j, none⟩ = false := fun j => ((bcell HB'.out).2 _ j z1).trans (f1 j)
  clear x0 x1 x2 x3 y0 y1 y2 y3 f0 f1 cu r4 zg
  go_wp2
  refine bodyPost_ret (v := .tuple #[.agg #[.int .u8 p.k, .int .i64 p.n, .int .i64 p.b, .int .i64 (p.o + y)], .int .i64 0]) (by simp [results, Try.results21, go_sem, *]) rfl ⟨rfl, ?_⟩
  repeat (first | exact B2.out | refine Below.setCell ?_ (by simp) _ | refine Below.alloc ?_ (by simp; omega) _)

def moveBad (m : List Blk) (p : Val) (y : Int) : Prop := y < -p.o ∨ (blkAt m p).cells.length - p.o ≤ y
instance (m : List Blk) (p : Val) (y : Int) : Decidable (moveBad m p y) := by unfold moveBad; exact inferInstance
def moveV (m : List Blk) (p : Val) (y : Int) : Val := if askedI m p false = 0 ∧ ¬ moveBad m p y then ⟨p.k, p.n, p.b, p.o + y⟩ else zero
def moveI (m : List Blk) (p : Val) (y : Int) : Int := if askedI m p false = 0 then (if moveBad m p y then 2 else 0) else askedI m p false
theorem move_any {m : List Blk} {v : Value} (p : Val) (y : Int) (hy1 : -9223372036854775808 ≤ y) (hy2 : y ≤ 9223372036854775807) (w : World) (hm : BsAt w v m) :
    Calls Try.prog 21 #[v, .agg #[.int .u8 p.k, .int .i64 p.n, .int .i64 p.b, .int .i64 p.o], .int .i64 y] w fun e w' => e = .returned (.tuple #[.agg #[.int .u8 (moveV m p y).k, .int .i64 (moveV m p y).n, .int .i64 (moveV m p y).b, .int .i64 (moveV m p y).o], .int .i64 (moveI m p y)]) ∧ Below w.heap.size w w' := by
  unfold moveV moveI
  by_cases h : askedI m p false = 0
  · by_cases hbad : moveBad m p y
    · rw [if_neg (by simp [hbad]), if_pos h, if_pos hbad]
      rcases hbad with hb | hb
      · exact move_low p y hy1 hy2 w hm h ⟨hb, rfl⟩
      · by_cases hlo : y < -p.o
        · exact move_low p y hy1 hy2 w hm h ⟨hlo, rfl⟩
        · exact move_high p y hy1 hy2 w hm h hlo hb
    · rw [if_pos ⟨h, hbad⟩, if_pos h, if_neg hbad]
      have h2 : ¬ (y < -p.o ∨ (blkAt m p).cells.length - p.o ≤ y) := hbad
      exact move_good p y hy1 hy2 w hm h (fun hx => h2 (.inl hx)) (fun hx => h2 (.inr hx))
  · simp only [h, false_and, if_false]
    exact move_bad p y _ w hm rfl h

end Go.Proofs.Ytmelamlngjflkaa

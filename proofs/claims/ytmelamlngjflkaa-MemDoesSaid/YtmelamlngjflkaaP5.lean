/- The contracts of the document's pointer, Loaded, Freed, Moved, and of its Load, Free and Move. -/
import Derived.Test.YtmelamlngjflkaaRows
import Derived.WalkKit
import Derived.ProofKit
import Derived.OpenShut
import Derived.Below
import Derived.Outline
import Derived.LoopTactic
import Derived.Test.YtmelamlngjflkaaRep
import Derived.Test.YtmelamlngjflkaaU
import Derived.Lib.Hide
import Derived.RegionTactic
import Derived.BigRegion
import Derived.Deep.RegionWith
import Derived.Test.YtmelamlngjflkaaP4
import Derived.Test.YtmelamlngjflkaaE
import Derived.Test.YtmelamlngjflkaaS
namespace Go.Proofs.Ytmelamlngjflkaa
open Go.ChangeShapes Go.WideShapes Go.ChangeAt Go.RowKit
set_option linter.unusedVariables false

theorem pointer_any {m : List Blk} {v : Value} (p : Val) (w : World) (hm : BsAt w v m) : Calls Try.prog 64 #[v, .agg #[.int .u8 p.k, .int .i64 p.n, .int .i64 p.b, .int .i64 p.o]] w fun e w' => e = .returned (.int .i64 (askI m p false)) ∧ Below w.heap.size w w' := by
  have HM := Lib.hid hm; clear hm
  have B1 := Lib.hid (fun (o : Obj) => (Below.refl w.heap.size w).alloc (Nat.le_refl _) o)
  by_cases hk : p.k = 2
  · have hk1 : (p.k == 2) = true := by simpa using hk
    have hk2 : (p.k != 2) = false := by simpa using hk
    cases hi : isB m p
    · have E : askI m p false = 2 := by simp [askI, hi]
      rw [E]
      have HI := Lib.hid hi
      clear E hk hi
      go_enter Try.func64, Try.ntmps64
      go_wp2_with fail
      (with_reducible refine (ris_not p _ (HM.out.below (B1.out _)) HI.out).mono ?_); rintro e w1 ⟨rfl, h1⟩
      go_wp2
      go_ret
      exact ⟨rfl, (B1.out _).trans (h1.mono (by simp))⟩
    · have HI := Lib.hid hi
      by_cases hb : p.b = 0
      · have E : askI m p false = 140 := by unfold askI; rw [if_neg (by simp [hk, hi]), if_pos ⟨hb, rfl⟩]
        rw [E]
        have hb1 : (p.b == 0) = true := by simpa using hb
        clear E hk hi hb
        go_enter Try.func64, Try.ntmps64
        go_wp2_with fail
        (with_reducible refine (ris_yes p _ (HM.out.below (B1.out _)) HI.out).mono ?_); rintro e w1 ⟨rfl, h1⟩
        have x2 : w1.cell? ⟨w.heap.size, 2, none⟩ = some (.int .i64 p.b) := cell_below h1 (by simp)
        have z1 : w.heap.size < w1.heap.size := by have := h1.size; simp at this; omega
        have H1 := Lib.hid h1; clear h1
        go_wp2
        go_ret
        exact ⟨rfl, (B1.out _).trans (H1.out.mono (by simp))⟩
      · have E : askI m p false = 0 := by unfold askI; rw [if_neg (by simp [hk, hi]), if_neg (by simp [hb])]
        rw [E]
        have hb1 : (p.b == 0) = false := by simpa using hb
        clear E hk hi hb
        go_enter Try.func64, Try.ntmps64
        go_wp2_with fail
        (with_reducible refine (ris_yes p _ (HM.out.below (B1.out _)) HI.out).mono ?_); rintro e w1 ⟨rfl, h1⟩
        have x2 : w1.cell? ⟨w.heap.size, 2, none⟩ = some (.int .i64 p.b) := cell_below h1 (by simp)
        have z1 : w.heap.size < w1.heap.size := by have := h1.size; simp at this; omega
        have H1 := Lib.hid h1; clear h1
        go_wp2
        go_ret
        exact ⟨rfl, (B1.out _).trans (H1.out.mono (by simp))⟩
  · have E : askI m p false = 2 := by simp [askI, hk]
    rw [E]
    have hk1 : (p.k == 2) = false := by simpa using hk
    have hk2 : (p.k != 2) = true := by simpa using hk
    clear E hk
    go_enter Try.func64, Try.ntmps64
    go_wp2
    go_ret
    exact ⟨rfl, B1.out _⟩
theorem pointer_is {m : List Blk} {v : Value} (p : Val) (i : Int) (w : World) (hm : BsAt w v m) (h : askI m p false = i) : Calls Try.prog 64 #[v, .agg #[.int .u8 p.k, .int .i64 p.n, .int .i64 p.b, .int .i64 p.o]] w fun e w' => e = .returned (.int .i64 i) ∧ Below w.heap.size w w' := by
  rw [← h]; exact pointer_any p w hm
theorem asked_may {m : List Blk} {p : Val} {n : Bool} (h : mayM m = true) : askedI m p n = askI m p n := by rw [askedI, h, if_pos rfl]

set_option maxHeartbeats 2000000 in
theorem rload_bad {m : List Blk} {v : Value} (p : Val) (i : Int) (w : World) (hm : BsAt w v m) (h : askI m p false = i) (hi : ¬ i = 0) :
    Calls Try.prog 56 #[v, .agg #[.int .u8 p.k, .int .i64 p.n, .int .i64 p.b, .int .i64 p.o]] w fun e w' => e = .returned (.tuple #[.agg #[.int .u8 0, .int .i64 0, .int .i64 0, .int .i64 0], .int .i64 i]) ∧ Below w.heap.size w w' := by
  have HM := Lib.hid hm; clear hm
  have HI := Lib.hid h; clear h
  have e1 : (i == 0) = false := by simpa using hi
  have e2 : (i != 0) = true := by simpa using hi
  clear hi
  go_enter Try.func56, Try.ntmps56
  go_wp2_with fail
  (with_reducible refine (pointer_is p i _ (HM.out.below (((Below.refl _ _).alloc (Nat.le_refl _) _).alloc (by simp) _)) HI.out).mono ?_); rintro e w1 ⟨rfl, h1⟩
  obtain ⟨c1, f1⟩ := bcell h1
  have H1 := Lib.hid h1; clear h1
  go_wp2
  exact bodyPost_ret (v := .tuple #[.agg #[.int .u8 0, .int .i64 0, .int .i64 0, .int .i64 0], .int .i64 i]) (by simp [results, Try.results56, go_sem, c1]) rfl ⟨rfl, ((((b2 H1.out).setCell (by simp) _).setCell (by simp) _).setCell (by simp) _).setCell (by simp) _⟩

set_option maxHeartbeats 2000000 in
theorem rload_dead {m : List Blk} {v : Value} (p : Val) (w : World) (hm : BsAt w v m) (hy : mayM m = true) (h : askI m p false = 0) (ha : (blkAt m p).alive = false) :
    Calls Try.prog 56 #[v, .agg #[.int .u8 p.k, .int .i64 p.n, .int .i64 p.b, .int .i64 p.o]] w fun e w' => e = .returned (.tuple #[.agg #[.int .u8 0, .int .i64 0, .int .i64 0, .int .i64 0], .int .i64 142]) ∧ Below w.heap.size w w' := by
  have hm' := hm
  obtain ⟨A, c, rfl, hl, hq⟩ := hm'
  clear hq
  obtain ⟨hk, his, hn⟩ := askI_zero h
  have hb : ¬ p.b = 0 := by simpa using hn
  obtain ⟨hb0, hbl, ho0, b, hgb, heb, hol, hce⟩ := in_of hk hb his
  rw [heb] at ha
  obtain ⟨g, og, rfl, hg, q0, q1, q2, q3, hv, q4, h5⟩ := hm.get hgb
  have h5' := h5
  obtain ⟨Ai, ci, rfl, hl5, hx5⟩ := h5'
  clear hx5
  rw [ha] at q3
  obtain ⟨gi, oi, rfl, hgi, t0, t1, t2, t3⟩ := h5.get hce
  have HM := Lib.hid hm; clear hm
  have HI := Lib.hid h; clear h
  have HC := Lib.hid hce
  clear hy hk his hn hb hgb heb ha hce h5
  go_enter Try.func56, Try.ntmps56
  go_wp2_with fail
  (with_reducible refine (pointer_is p 0 _ (HM.out.below (((Below.refl _ _).alloc (Nat.le_refl _) _).alloc (by simp) _)) HI.out).mono ?_); rintro e w1 ⟨rfl, h1⟩
  have B1 := Lib.hid (b2 h1)
  have z1 : w.heap.size + 1 < w1.heap.size := by have := h1.size; simp at this; omega
  have z0 : w.heap.size < w1.heap.size := by omega
  have r0 := cell_below B1.out q0
  have r1 := cell_below B1.out q1
  have r2 := cell_below B1.out q2
  have r3 := cell_below B1.out q3
  have r4 := cell_below B1.out q4
  have u0 := cell_below B1.out t0
  have u1 := cell_below B1.out t1
  have u2 := cell_below B1.out t2
  have u3 := cell_below B1.out t3
  have zg : g < w1.heap.size := by omega
  have zgi : gi < w1.heap.size := by omega
  clear q0 q1 q2 q3 q4 t0 t1 t2 t3
  have x0 : w1.cell? ⟨w.heap.size, 0, none⟩ = some (.int .u8 p.k) := cell_below h1 (by simp)
  have x1 : w1.cell? ⟨w.heap.size, 1, none⟩ = some (.int .i64 p.n) := cell_below h1 (by simp)
  have x2 : w1.cell? ⟨w.heap.size, 2, none⟩ = some (.int .i64 p.b) := cell_below h1 (by simp)
  have x3 : w1.cell? ⟨w.heap.size, 3, none⟩ = some (.int .i64 p.o) := cell_below h1 (by simp)
  have y0 : w1.cell? ⟨w.heap.size + 1, 0, none⟩ = some (.int .u8 0) := cell_below h1 (by simp)
  have y1 : w1.cell? ⟨w.heap.size + 1, 1, none⟩ = some (.int .i64 0) := cell_below h1 (by simp)
  have y2 : w1.cell? ⟨w.heap.size + 1, 2, none⟩ = some (.int .i64 0) := cell_below h1 (by simp)
  have y3 : w1.cell? ⟨w.heap.size + 1, 3, none⟩ = some (.int .i64 0) := cell_below h1 (by simp)
  obtain ⟨_, f1⟩ := bcell h1
  clear h1
  go_wp2
  refine bodyPost_ret (v := .tuple #[.agg #[.int .u8 0, .int .i64 0, .int .i64 0, .int .i64 0], .int .i64 142]) (by simp [results, Try.results56, go_sem, *]) rfl ⟨rfl, ?_⟩
  repeat (first | exact B1.out | refine Below.setCell ?_ (by simp) _ | refine Below.alloc ?_ (by simp; omega) _)

set_option maxHeartbeats 2000000 in
theorem rload_live {m : List Blk} {v : Value} (p : Val) (w : World) (hm : BsAt w v m) (hy : mayM m = true) (h : askI m p false = 0) (ha : (blkAt m p).alive = true) :
    Calls Try.prog 56 #[v, .agg #[.int .u8 p.k, .int .i64 p.n, .int .i64 p.b, .int .i64 p.o]] w fun e w' => e = .returned (.tuple #[.agg #[.int .u8 (cellAt m p).k, .int .i64 (cellAt m p).n, .int .i64 (cellAt m p).b, .int .i64 (cellAt m p).o], .int .i64 0]) ∧ Below w.heap.size w w' := by
  have hm' := hm
  obtain ⟨A, c, rfl, hl, hq⟩ := hm'
  clear hq
  obtain ⟨hk, his, hn⟩ := askI_zero h
  have hb : ¬ p.b = 0 := by simpa using hn
  obtain ⟨hb0, hbl, ho0, b, hgb, heb, hol, hce⟩ := in_of hk hb his
  rw [heb] at ha
  obtain ⟨g, og, rfl, hg, q0, q1, q2, q3, hv, q4, h5⟩ := hm.get hgb
  have h5' := h5
  obtain ⟨Ai, ci, rfl, hl5, hx5⟩ := h5'
  clear hx5
  rw [ha] at q3
  obtain ⟨gi, oi, rfl, hgi, t0, t1, t2, t3⟩ := h5.get hce
  have HM := Lib.hid hm; clear hm
  have HI := Lib.hid h; clear h
  have HC := Lib.hid hce
  clear hy hk his hn hb hgb heb ha hce h5
  go_enter Try.func56, Try.ntmps56
  go_wp2_with fail
  (with_reducible refine (pointer_is p 0 _ (HM.out.below (((Below.refl _ _).alloc (Nat.le_refl _) _).alloc (by simp) _)) HI.out).mono ?_); rintro e w1 ⟨rfl, h1⟩
  have B1 := Lib.hid (b2 h1)
  have z1 : w.heap.size + 1 < w1.heap.size := by have := h1.size; simp at this; omega
  have z0 : w.heap.size < w1.heap.size := by omega
  have r0 := cell_below B1.out q0
  have r1 := cell_below B1.out q1
  have r2 := cell_below B1.out q2
  have r3 := cell_below B1.out q3
  have r4 := cell_below B1.out q4
  have u0 := cell_below B1.out t0
  have u1 := cell_below B1.out t1
  have u2 := cell_below B1.out t2
  have u3 := cell_below B1.out t3
  have zg : g < w1.heap.size := by omega
  have zgi : gi < w1.heap.size := by omega
  clear q0 q1 q2 q3 q4 t0 t1 t2 t3
  have x0 : w1.cell? ⟨w.heap.size, 0, none⟩ = some (.int .u8 p.k) := cell_below h1 (by simp)
  have x1 : w1.cell? ⟨w.heap.size, 1, none⟩ = some (.int .i64 p.n) := cell_below h1 (by simp)
  have x2 : w1.cell? ⟨w.heap.size, 2, none⟩ = some (.int .i64 p.b) := cell_below h1 (by simp)
  have x3 : w1.cell? ⟨w.heap.size, 3, none⟩ = some (.int .i64 p.o) := cell_below h1 (by simp)
  have y0 : w1.cell? ⟨w.heap.size + 1, 0, none⟩ = some (.int .u8 0) := cell_below h1 (by simp)
  have y1 : w1.cell? ⟨w.heap.size + 1, 1, none⟩ = some (.int .i64 0) := cell_below h1 (by simp)
  have y2 : w1.cell? ⟨w.heap.size + 1, 2, none⟩ = some (.int .i64 0) := cell_below h1 (by simp)
  have y3 : w1.cell? ⟨w.heap.size + 1, 3, none⟩ = some (.int .i64 0) := cell_below h1 (by simp)
  obtain ⟨_, f1⟩ := bcell h1
  have cf : ∀ j, w1.frozen? ⟨w.heap.size + 1, j, none⟩ = false := fun j => by rw [f1 _ _ (by simp)]; simp
  clear h1 f1
  go_wp2_with fail
  go_region
  all_goals
    go_wp2
  all_goals
  refine bodyPost_ret (v := .tuple #[.agg #[.int .u8 (cellAt m p).k, .int .i64 (cellAt m p).n, .int .i64 (cellAt m p).b, .int .i64 (cellAt m p).o], .int .i64 0]) (by simp [results, Try.results56, go_sem, *]) rfl ⟨rfl, ?_⟩
  repeat (first | exact B1.out | (with_reducible refine Below.drew ?_) | refine Below.setCell ?_ (by simp) _ | refine Below.alloc ?_ (by simp; omega) _)

set_option maxHeartbeats 2000000 in
theorem rfree_bad {m : List Blk} {v : Value} (p : Val) (i : Int) (w : World) (hm : BsAt w v m) (h : askI m p false = i) (hi : ¬ i = 0) :
    Calls Try.prog 58 #[v, .agg #[.int .u8 p.k, .int .i64 p.n, .int .i64 p.b, .int .i64 p.o]] w (MadeP [] i w) := by
  have HM := Lib.hid hm; clear hm
  have HI := Lib.hid h; clear h
  have e1 : (i == 0) = false := by simpa using hi
  have e2 : (i != 0) = true := by simpa using hi
  clear hi
  go_enter Try.func58, Try.ntmps58
  go_wp2_with fail
  (with_reducible refine (pointer_is p i _ (HM.out.below ((Below.refl _ _).alloc (Nat.le_refl _) _)) HI.out).mono ?_); rintro e w1 ⟨rfl, h1⟩
  have H1 := Lib.hid h1; clear h1
  go_wp2
  go_ret2
  exact ⟨_, rfl, Lay.no _ _, ((Below.refl _ _).alloc (Nat.le_refl _) _).trans (H1.out.mono (by simp))⟩

set_option maxHeartbeats 2000000 in
theorem rfree_deep {m : List Blk} {v : Value} (p : Val) (w : World) (hm : BsAt w v m) (hy : mayM m = true) (h : askI m p false = 0) (hh : 0 < (blkAt m p).dep) :
    Calls Try.prog 58 #[v, .agg #[.int .u8 p.k, .int .i64 p.n, .int .i64 p.b, .int .i64 p.o]] w (MadeP ([]) 143 w) := by
  have hm' := hm
  obtain ⟨A, c, rfl, hl, hq⟩ := hm'
  clear hq
  obtain ⟨hk, his, hn⟩ := askI_zero h
  have hb : ¬ p.b = 0 := by simpa using hn
  obtain ⟨hb0, hbl, ho0, b, hgb, heb, hol, hce⟩ := in_of hk hb his
  rw [heb] at hh
  obtain ⟨g, og, rfl, hg, q0, q1, q2, q3, hv, q4, h5⟩ := hm.get hgb
  obtain ⟨Ai, ci, rfl, hl5, hx5⟩ := h5
  clear hx5
  have HML := Lib.hid (mayM_len hy)
  have HM := Lib.hid hm; clear hm
  have HI := Lib.hid h; clear h
  have HGB := Lib.hid hgb
  have HEB := Lib.hid heb
  clear hy hk his hn hb hgb heb hce
  go_enter Try.func58, Try.ntmps58
  go_wp2_with fail
  (with_reducible refine (pointer_is p 0 _ (HM.out.below ((Below.refl _ _).alloc (Nat.le_refl _) _)) HI.out).mono ?_); rintro e w1 ⟨rfl, h1⟩
  have B1 : Hid (Below w.heap.size w w1) := ((Below.refl _ _).alloc (Nat.le_refl _) _).trans (h1.mono (by simp))
  have z0 : w.heap.size < w1.heap.size := by have := h1.size; simp at this; omega
  have r0 := cell_below B1.out q0
  have r1 := cell_below B1.out q1
  have r2 := cell_below B1.out q2
  have r3 := cell_below B1.out q3
  have r4 := cell_below B1.out q4
  have zg : g < w1.heap.size := by omega
  clear q0 q1 q2 q3 q4
  have x0 : w1.cell? ⟨w.heap.size, 0, none⟩ = some (.int .u8 p.k) := cell_below h1 (by simp)
  have x1 : w1.cell? ⟨w.heap.size, 1, none⟩ = some (.int .i64 p.n) := cell_below h1 (by simp)
  have x2 : w1.cell? ⟨w.heap.size, 2, none⟩ = some (.int .i64 p.b) := cell_below h1 (by simp)
  have x3 : w1.cell? ⟨w.heap.size, 3, none⟩ = some (.int .i64 p.o) := cell_below h1 (by simp)
  clear h1
  go_wp2
  go_ret2
  exact ⟨_, rfl, Lay.no _ _, B1.out⟩

set_option maxHeartbeats 2000000 in
theorem rfree_place {m : List Blk} {v : Value} (p : Val) (w : World) (hm : BsAt w v m) (hy : mayM m = true) (h : askI m p false = 0) (hh : ¬ 0 < (blkAt m p).dep) (hpo : 0 < p.o) :
    Calls Try.prog 58 #[v, .agg #[.int .u8 p.k, .int .i64 p.n, .int .i64 p.b, .int .i64 p.o]] w (MadeP ([]) 143 w) := by
  have hm' := hm
  obtain ⟨A, c, rfl, hl, hq⟩ := hm'
  clear hq
  obtain ⟨hk, his, hn⟩ := askI_zero h
  have hb : ¬ p.b = 0 := by simpa using hn
  obtain ⟨hb0, hbl, ho0, b, hgb, heb, hol, hce⟩ := in_of hk hb his
  rw [heb] at hh
  obtain ⟨g, og, rfl, hg, q0, q1, q2, q3, hv, q4, h5⟩ := hm.get hgb
  obtain ⟨Ai, ci, rfl, hl5, hx5⟩ := h5
  clear hx5
  have HML := Lib.hid (mayM_len hy)
  have HM := Lib.hid hm; clear hm
  have HI := Lib.hid h; clear h
  have HGB := Lib.hid hgb
  have HEB := Lib.hid heb
  clear hy hk his hn hb hgb heb hce
  go_enter Try.func58, Try.ntmps58
  go_wp2_with fail
  (with_reducible refine (pointer_is p 0 _ (HM.out.below ((Below.refl _ _).alloc (Nat.le_refl _) _)) HI.out).mono ?_); rintro e w1 ⟨rfl, h1⟩
  have B1 : Hid (Below w.heap.size w w1) := ((Below.refl _ _).alloc (Nat.le_refl _) _).trans (h1.mono (by simp))
  have z0 : w.heap.size < w1.heap.size := by have := h1.size; simp at this; omega
  have r0 := cell_below B1.out q0
  have r1 := cell_below B1.out q1
  have r2 := cell_below B1.out q2
  have r3 := cell_below B1.out q3
  have r4 := cell_below B1.out q4
  have zg : g < w1.heap.size := by omega
  clear q0 q1 q2 q3 q4
  have x0 : w1.cell? ⟨w.heap.size, 0, none⟩ = some (.int .u8 p.k) := cell_below h1 (by simp)
  have x1 : w1.cell? ⟨w.heap.size, 1, none⟩ = some (.int .i64 p.n) := cell_below h1 (by simp)
  have x2 : w1.cell? ⟨w.heap.size, 2, none⟩ = some (.int .i64 p.b) := cell_below h1 (by simp)
  have x3 : w1.cell? ⟨w.heap.size, 3, none⟩ = some (.int .i64 p.o) := cell_below h1 (by simp)
  clear h1
  go_wp2
  go_ret2
  exact ⟨_, rfl, Lay.no _ _, B1.out⟩

set_option maxHeartbeats 2000000 in
theorem rfree_dead {m : List Blk} {v : Value} (p : Val) (w : World) (hm : BsAt w v m) (hy : mayM m = true) (h : askI m p false = 0) (hh : ¬ 0 < (blkAt m p).dep ∧ (blkAt m p).alive = false) (hpo : ¬ 0 < p.o) :
    Calls Try.prog 58 #[v, .agg #[.int .u8 p.k, .int .i64 p.n, .int .i64 p.b, .int .i64 p.o]] w (MadeP ([]) 142 w) := by
  have hm' := hm
  obtain ⟨A, c, rfl, hl, hq⟩ := hm'
  clear hq
  obtain ⟨hk, his, hn⟩ := askI_zero h
  have hb : ¬ p.b = 0 := by simpa using hn
  obtain ⟨hb0, hbl, ho0, b, hgb, heb, hol, hce⟩ := in_of hk hb his
  rw [heb] at hh
  obtain ⟨g, og, rfl, hg, q0, q1, q2, q3, hv, q4, h5⟩ := hm.get hgb
  obtain ⟨Ai, ci, rfl, hl5, hx5⟩ := h5
  clear hx5
  have HML := Lib.hid (mayM_len hy)
  have HM := Lib.hid hm; clear hm
  have HI := Lib.hid h; clear h
  have HGB := Lib.hid hgb
  have HEB := Lib.hid heb
  clear hy hk his hn hb hgb heb hce
  obtain ⟨hh1, hh2⟩ := hh
  rw [hh2] at q3
  clear hh2
  go_enter Try.func58, Try.ntmps58
  go_wp2_with fail
  (with_reducible refine (pointer_is p 0 _ (HM.out.below ((Below.refl _ _).alloc (Nat.le_refl _) _)) HI.out).mono ?_); rintro e w1 ⟨rfl, h1⟩
  have B1 : Hid (Below w.heap.size w w1) := ((Below.refl _ _).alloc (Nat.le_refl _) _).trans (h1.mono (by simp))
  have z0 : w.heap.size < w1.heap.size := by have := h1.size; simp at this; omega
  have r0 := cell_below B1.out q0
  have r1 := cell_below B1.out q1
  have r2 := cell_below B1.out q2
  have r3 := cell_below B1.out q3
  have r4 := cell_below B1.out q4
  have zg : g < w1.heap.size := by omega
  clear q0 q1 q2 q3 q4
  have x0 : w1.cell? ⟨w.heap.size, 0, none⟩ = some (.int .u8 p.k) := cell_below h1 (by simp)
  have x1 : w1.cell? ⟨w.heap.size, 1, none⟩ = some (.int .i64 p.n) := cell_below h1 (by simp)
  have x2 : w1.cell? ⟨w.heap.size, 2, none⟩ = some (.int .i64 p.b) := cell_below h1 (by simp)
  have x3 : w1.cell? ⟨w.heap.size, 3, none⟩ = some (.int .i64 p.o) := cell_below h1 (by simp)
  clear h1
  go_wp2
  go_ret2
  exact ⟨_, rfl, Lay.no _ _, B1.out⟩

set_option maxHeartbeats 2000000 in
theorem rfree_good {m : List Blk} {v : Value} (p : Val) (w : World) (hm : BsAt w v m) (hy : mayM m = true) (h : askI m p false = 0) (hh : ¬ 0 < (blkAt m p).dep ∧ (blkAt m p).alive = true) (hpo : ¬ 0 < p.o) :
    Calls Try.prog 58 #[v, .agg #[.int .u8 p.k, .int .i64 p.n, .int .i64 p.b, .int .i64 p.o]] w (MadeP (m.set (p.b.toNat - 1) { blkAt m p with alive := false }) 0 w) := by
  have hm' := hm
  obtain ⟨A, c, rfl, hl, hq⟩ := hm'
  clear hq
  obtain ⟨hk, his, hn⟩ := askI_zero h
  have hb : ¬ p.b = 0 := by simpa using hn
  obtain ⟨hb0, hbl, ho0, b, hgb, heb, hol, hce⟩ := in_of hk hb his
  rw [heb] at hh
  obtain ⟨g, og, rfl, hg, q0, q1, q2, q3, hv, q4, h5⟩ := hm.get hgb
  obtain ⟨Ai, ci, rfl, hl5, hx5⟩ := h5
  clear hx5
  have HML := Lib.hid (mayM_len hy)
  have HM := Lib.hid hm; clear hm
  have HI := Lib.hid h; clear h
  have HGB := Lib.hid hgb
  have HEB := Lib.hid heb
  clear hy hk his hn hb hgb heb hce
  obtain ⟨hh1, hh2⟩ := hh
  rw [hh2] at q3
  clear hh2
  go_enter Try.func58, Try.ntmps58
  go_wp2_with fail
  (with_reducible refine (pointer_is p 0 _ (HM.out.below ((Below.refl _ _).alloc (Nat.le_refl _) _)) HI.out).mono ?_); rintro e w1 ⟨rfl, h1⟩
  have B1 : Hid (Below w.heap.size w w1) := ((Below.refl _ _).alloc (Nat.le_refl _) _).trans (h1.mono (by simp))
  have z0 : w.heap.size < w1.heap.size := by have := h1.size; simp at this; omega
  have r0 := cell_below B1.out q0
  have r1 := cell_below B1.out q1
  have r2 := cell_below B1.out q2
  have r3 := cell_below B1.out q3
  have r4 := cell_below B1.out q4
  have zg : g < w1.heap.size := by omega
  clear q0 q1 q2 q3 q4
  have x0 : w1.cell? ⟨w.heap.size, 0, none⟩ = some (.int .u8 p.k) := cell_below h1 (by simp)
  have x1 : w1.cell? ⟨w.heap.size, 1, none⟩ = some (.int .i64 p.n) := cell_below h1 (by simp)
  have x2 : w1.cell? ⟨w.heap.size, 2, none⟩ = some (.int .i64 p.b) := cell_below h1 (by simp)
  have x3 : w1.cell? ⟨w.heap.size, 3, none⟩ = some (.int .i64 p.o) := cell_below h1 (by simp)
  clear h1
  go_wp2_with fail
  refine (rtwin_any _ (HM.out.below (B1.out)) HML.out.1 HML.out.2).mono ?_
  rintro e w2 ⟨v2, rfl, hlay, h2⟩
  have B2 : Hid (Below w.heap.size w w2) := B1.out.trans (h2.mono B1.out.size)
  have hlt := (List.getElem?_eq_some_iff.1 HGB.out).1
  obtain ⟨g2, cap, ps, rfl, _, hbg, hg2, _, _, _⟩ := hlay.form (by omega)
  have x2' : w2.cell? ⟨w.heap.size, 2, none⟩ = some (.int .i64 p.b) := cell_below h2 x2
  obtain ⟨_, _, _, hcell, hfr0, _, _⟩ := hlay.head HGB.out
  have hfr : w2.frozen? ⟨g2, (p.b.toNat - 1) * 5 + 3, none⟩ = false := hfr0 _
  have HLAY := Lib.hid (hlay.lower (base' := w.heap.size) B1.out.size)
  have hbg2 : w.heap.size ≤ g2 := Nat.le_trans B1.out.size hbg
  clear hlay h2 r0 r1 r2 r3 r4 x0 x1 x2 x3 hbg hfr0
  go_wp2
  go_ret2
  refine ⟨_, rfl, ?_, B2.out.setCell hbg2 _⟩
  have := HLAY.out.field HGB.out (b' := { b with alive := false }) rfl (j := 3) (by omega) (u := .bool false) (fun _ => rfl)
  rw [HEB.out]
  exact this

set_option maxHeartbeats 2000000 in
theorem rmove_bad {m : List Blk} {v : Value} (p : Val) (y i : Int) (w : World) (hm : BsAt w v m) (h : askI m p false = i) (hi : ¬ i = 0) :
    Calls Try.prog 59 #[v, .agg #[.int .u8 p.k, .int .i64 p.n, .int .i64 p.b, .int .i64 p.o], .int .i64 y] w fun e w' => e = .returned (.tuple #[.agg #[.int .u8 0, .int .i64 0, .int .i64 0, .int .i64 0], .int .i64 i]) ∧ Below w.heap.size w w' := by
  have HM := Lib.hid hm; clear hm
  have HI := Lib.hid h; clear h
  have e1 : (i == 0) = false := by simpa using hi
  have e2 : (i != 0) = true := by simpa using hi
  clear hi
  go_enter Try.func59, Try.ntmps59
  go_wp2_with fail
  (with_reducible refine (pointer_is p i _ (HM.out.below (((Below.refl _ _).alloc (Nat.le_refl _) _).alloc (by simp) _)) HI.out).mono ?_); rintro e w1 ⟨rfl, h1⟩
  obtain ⟨c1, f1⟩ := bcell h1
  have H1 := Lib.hid h1; clear h1
  go_wp2
  exact bodyPost_ret (v := .tuple #[.agg #[.int .u8 0, .int .i64 0, .int .i64 0, .int .i64 0], .int .i64 i]) (by simp [results, Try.results59, go_sem, c1]) rfl ⟨rfl, ((((b2 H1.out).setCell (by simp) _).setCell (by simp) _).setCell (by simp) _).setCell (by simp) _⟩

set_option maxHeartbeats 2000000 in
theorem rmove_low {m : List Blk} {v : Value} (p : Val) (y : Int) (hy1 : -9223372036854775808 ≤ y) (hy2 : y ≤ 9223372036854775807) (w : World) (hm : BsAt w v m) (hy : mayM m = true) (h : askI m p false = 0) (hh : y < -p.o ∧ (blkAt m p).cells.length = (blkAt m p).cells.length) :
    Calls Try.prog 59 #[v, .agg #[.int .u8 p.k, .int .i64 p.n, .int .i64 p.b, .int .i64 p.o], .int .i64 y] w fun e w' => e = .returned (.tuple #[.agg #[.int .u8 0, .int .i64 0, .int .i64 0, .int .i64 0], .int .i64 2]) ∧ Below w.heap.size w w' := by
  have hm' := hm
  obtain ⟨A, c, rfl, hl, hq⟩ := hm'
  clear hq
  obtain ⟨hk, his, hn⟩ := askI_zero h
  have hb : ¬ p.b = 0 := by simpa using hn
  obtain ⟨hb0, hbl, ho0, b, hgb, heb, hol, hce⟩ := in_of hk hb his
  rw [heb] at hh
  obtain ⟨g, og, rfl, hg, q0, q1, q2, q3, hv, q4, h5⟩ := hm.get hgb
  obtain ⟨Ai, ci, rfl, hl5, hx5⟩ := h5
  clear hx5
  have HM := Lib.hid hm; clear hm
  have HI := Lib.hid h; clear h
  clear hy hk his hn hb hgb heb hce
  have hlt := hh.1
  clear hh
  have d1 : decide (y < -p.o) = true := by simpa using hlt
  go_enter Try.func59, Try.ntmps59
  go_wp2_with fail
  (with_reducible refine (pointer_is p 0 _ (HM.out.below (((Below.refl _ _).alloc (Nat.le_refl _) _).alloc (by simp) _)) HI.out).mono ?_); rintro e w1 ⟨rfl, h1⟩
  have B1 := Lib.hid (b2 h1)
  have z1 : w.heap.size + 1 < w1.heap.size := by have := h1.size; simp at this; omega
  have z0 : w.heap.size < w1.heap.size := by omega
  have r4 := cell_below B1.out q4
  have zg : g < w1.heap.size := by omega
  clear q0 q1 q2 q3 q4
  have x0 : w1.cell? ⟨w.heap.size, 0, none⟩ = some (.int .u8 p.k) := cell_below h1 (by simp)
  have x1 : w1.cell? ⟨w.heap.size, 1, none⟩ = some (.int .i64 p.n) := cell_below h1 (by simp)
  have x2 : w1.cell? ⟨w.heap.size, 2, none⟩ = some (.int .i64 p.b) := cell_below h1 (by simp)
  have x3 : w1.cell? ⟨w.heap.size, 3, none⟩ = some (.int .i64 p.o) := cell_below h1 (by simp)
  have y0 : w1.cell? ⟨w.heap.size + 1, 0, none⟩ = some (.int .u8 0) := cell_below h1 (by simp)
  have y1 : w1.cell? ⟨w.heap.size + 1, 1, none⟩ = some (.int .i64 0) := cell_below h1 (by simp)
  have y2 : w1.cell? ⟨w.heap.size + 1, 2, none⟩ = some (.int .i64 0) := cell_below h1 (by simp)
  have y3 : w1.cell? ⟨w.heap.size + 1, 3, none⟩ = some (.int .i64 0) := cell_below h1 (by simp)
  have f0 : ∀ j, w1.frozen? ⟨w.heap.size, j, none⟩ = false := fun j => by have := (bcell h1).2 w.heap.size j (by simp; omega); rw [this]; simp
  have f1 : ∀ j, w1.frozen? ⟨w.heap.size + 1, j, none⟩ = false := fun j => by have := (bcell h1).2 (w.heap.size + 1) j (by simp); rw [this]; simp
  clear h1
  go_wp2_with fail
  have cu := upon_cell w1 w1.heap.size
  refine wp_region_upon (by kernel_rfl) (by kernel_rfl) ?_
  repeat (go_big_quiet_step (first | fail))
  refine wpQuiet_nil ?_
  intro W' hb'
  have B2 := Lib.hid (B1.out.trans (hb'.mono B1.out.size))
  have HB' := Lib.hid hb'; clear hb'
  have v0 := cell_below HB'.out x0
  have v1 := cell_below HB'.out x1
  have v2 := cell_below HB'.out x2
  have v3 := cell_below HB'.out x3
  have u0 := cell_below HB'.out y0
  have u1 := cell_below HB'.out y1
  have u2 := cell_below HB'.out y2
  have u3 := cell_below HB'.out y3
  have k0 : ∀ j, W'.frozen? ⟨w.heap.size, j, none⟩ = false := fun j => ((bcell HB'.out).2 _ j z0).trans (f0 j)
  have k1 : ∀ j, W'.frozen? ⟨w.heap.size + 1, j, none⟩ = false := fun j => ((bcell HB'.out).2 _ j z1).trans (f1 j)
  clear x0 x1 x2 x3 y0 y1 y2 y3 f0 f1 cu r4 zg
  go_wp2
  refine bodyPost_ret (v := .tuple #[.agg #[.int .u8 0, .int .i64 0, .int .i64 0, .int .i64 0], .int .i64 2]) (by simp [results, Try.results59, go_sem, *]) rfl ⟨rfl, ?_⟩
  repeat (first | exact B2.out | refine Below.setCell ?_ (by simp) _ | refine Below.alloc ?_ (by simp; omega) _)

set_option maxHeartbeats 2000000 in
theorem rmove_high {m : List Blk} {v : Value} (p : Val) (y : Int) (hy1 : -9223372036854775808 ≤ y) (hy2 : y ≤ 9223372036854775807) (w : World) (hm : BsAt w v m) (hy : mayM m = true) (h : askI m p false = 0) (hlo : ¬ y < -p.o) (hh : (blkAt m p).cells.length - p.o ≤ y) :
    Calls Try.prog 59 #[v, .agg #[.int .u8 p.k, .int .i64 p.n, .int .i64 p.b, .int .i64 p.o], .int .i64 y] w fun e w' => e = .returned (.tuple #[.agg #[.int .u8 0, .int .i64 0, .int .i64 0, .int .i64 0], .int .i64 2]) ∧ Below w.heap.size w w' := by
  have hm' := hm
  obtain ⟨A, c, rfl, hl, hq⟩ := hm'
  clear hq
  obtain ⟨hk, his, hn⟩ := askI_zero h
  have hb : ¬ p.b = 0 := by simpa using hn
  obtain ⟨hb0, hbl, ho0, b, hgb, heb, hol, hce⟩ := in_of hk hb his
  rw [heb] at hh
  obtain ⟨g, og, rfl, hg, q0, q1, q2, q3, hv, q4, h5⟩ := hm.get hgb
  obtain ⟨Ai, ci, rfl, hl5, hx5⟩ := h5
  clear hx5
  have HM := Lib.hid hm; clear hm
  have HI := Lib.hid h; clear h
  clear hy hk his hn hb hgb heb hce
  have d1 : decide (y < -p.o) = false := by simpa using hlo
  go_enter Try.func59, Try.ntmps59
  go_wp2_with fail
  (with_reducible refine (pointer_is p 0 _ (HM.out.below (((Below.refl _ _).alloc (Nat.le_refl _) _).alloc (by simp) _)) HI.out).mono ?_); rintro e w1 ⟨rfl, h1⟩
  have B1 := Lib.hid (b2 h1)
  have z1 : w.heap.size + 1 < w1.heap.size := by have := h1.size; simp at this; omega
  have z0 : w.heap.size < w1.heap.size := by omega
  have r4 := cell_below B1.out q4
  have zg : g < w1.heap.size := by omega
  clear q0 q1 q2 q3 q4
  have x0 : w1.cell? ⟨w.heap.size, 0, none⟩ = some (.int .u8 p.k) := cell_below h1 (by simp)
  have x1 : w1.cell? ⟨w.heap.size, 1, none⟩ = some (.int .i64 p.n) := cell_below h1 (by simp)
  have x2 : w1.cell? ⟨w.heap.size, 2, none⟩ = some (.int .i64 p.b) := cell_below h1 (by simp)
  have x3 : w1.cell? ⟨w.heap.size, 3, none⟩ = some (.int .i64 p.o) := cell_below h1 (by simp)
  have y0 : w1.cell? ⟨w.heap.size + 1, 0, none⟩ = some (.int .u8 0) := cell_below h1 (by simp)
  have y1 : w1.cell? ⟨w.heap.size + 1, 1, none⟩ = some (.int .i64 0) := cell_below h1 (by simp)
  have y2 : w1.cell? ⟨w.heap.size + 1, 2, none⟩ = some (.int .i64 0) := cell_below h1 (by simp)
  have y3 : w1.cell? ⟨w.heap.size + 1, 3, none⟩ = some (.int .i64 0) := cell_below h1 (by simp)
  have f0 : ∀ j, w1.frozen? ⟨w.heap.size, j, none⟩ = false := fun j => by have := (bcell h1).2 w.heap.size j (by simp; omega); rw [this]; simp
  have f1 : ∀ j, w1.frozen? ⟨w.heap.size + 1, j, none⟩ = false := fun j => by have := (bcell h1).2 (w.heap.size + 1) j (by simp); rw [this]; simp
  clear h1
  go_wp2_with fail
  have cu := upon_cell w1 w1.heap.size
  refine wp_region_upon (by kernel_rfl) (by kernel_rfl) ?_
  repeat (go_big_quiet_step (first | fail))
  refine wpQuiet_nil ?_
  intro W' hb'
  have B2 := Lib.hid (B1.out.trans (hb'.mono B1.out.size))
  have HB' := Lib.hid hb'; clear hb'
  have v0 := cell_below HB'.out x0
  have v1 := cell_below HB'.out x1
  have v2 := cell_below HB'.out x2
  have v3 := cell_below HB'.out x3
  have u0 := cell_below HB'.out y0
  have u1 := cell_below HB'.out y1
  have u2 := cell_below HB'.out y2
  have u3 := cell_below HB'.out y3
  have k0 : ∀ j, W'.frozen? ⟨w.heap.size, j, none⟩ = false := fun j => ((bcell HB'.out).2 _ j z0).trans (f0 j)
  have k1 : ∀ j, W'.frozen? ⟨w.heap.size + 1, j, none⟩ = false := fun j => ((bcell HB'.out).2 _ j z1).trans (f1 j)
  clear x0 x1 x2 x3 y0 y1 y2 y3 f0 f1 cu r4 zg
  go_wp2
  refine bodyPost_ret (v := .tuple #[.agg #[.int .u8 0, .int .i64 0, .int .i64 0, .int .i64 0], .int .i64 2]) (by simp [results, Try.results59, go_sem, *]) rfl ⟨rfl, ?_⟩
  repeat (first | exact B2.out | refine Below.setCell ?_ (by simp) _ | refine Below.alloc ?_ (by simp; omega) _)

set_option maxHeartbeats 2000000 in
theorem rmove_good {m : List Blk} {v : Value} (p : Val) (y : Int) (hy1 : -9223372036854775808 ≤ y) (hy2 : y ≤ 9223372036854775807) (w : World) (hm : BsAt w v m) (hy : mayM m = true) (h : askI m p false = 0) (hlo : ¬ y < -p.o) (hh : ¬ (blkAt m p).cells.length - p.o ≤ y) :
    Calls Try.prog 59 #[v, .agg #[.int .u8 p.k, .int .i64 p.n, .int .i64 p.b, .int .i64 p.o], .int .i64 y] w fun e w' => e = .returned (.tuple #[.agg #[.int .u8 p.k, .int .i64 p.n, .int .i64 p.b, .int .i64 (p.o + y)], .int .i64 0]) ∧ Below w.heap.size w w' := by
  have hm' := hm
  obtain ⟨A, c, rfl, hl, hq⟩ := hm'
  clear hq
  obtain ⟨hk, his, hn⟩ := askI_zero h
  have hb : ¬ p.b = 0 := by simpa using hn
  obtain ⟨hb0, hbl, ho0, b, hgb, heb, hol, hce⟩ := in_of hk hb his
  rw [heb] at hh
  obtain ⟨g, og, rfl, hg, q0, q1, q2, q3, hv, q4, h5⟩ := hm.get hgb
  obtain ⟨Ai, ci, rfl, hl5, hx5⟩ := h5
  clear hx5
  have HM := Lib.hid hm; clear hm
  have HI := Lib.hid h; clear h
  clear hy hk his hn hb hgb heb hce
  have d1 : decide (y < -p.o) = false := by simpa using hlo
  go_enter Try.func59, Try.ntmps59
  go_wp2_with fail
  (with_reducible refine (pointer_is p 0 _ (HM.out.below (((Below.refl _ _).alloc (Nat.le_refl _) _).alloc (by simp) _)) HI.out).mono ?_); rintro e w1 ⟨rfl, h1⟩
  have B1 := Lib.hid (b2 h1)
  have z1 : w.heap.size + 1 < w1.heap.size := by have := h1.size; simp at this; omega
  have z0 : w.heap.size < w1.heap.size := by omega
  have r4 := cell_below B1.out q4
  have zg : g < w1.heap.size := by omega
  clear q0 q1 q2 q3 q4
  have x0 : w1.cell? ⟨w.heap.size, 0, none⟩ = some (.int .u8 p.k) := cell_below h1 (by simp)
  have x1 : w1.cell? ⟨w.heap.size, 1, none⟩ = some (.int .i64 p.n) := cell_below h1 (by simp)
  have x2 : w1.cell? ⟨w.heap.size, 2, none⟩ = some (.int .i64 p.b) := cell_below h1 (by simp)
  have x3 : w1.cell? ⟨w.heap.size, 3, none⟩ = some (.int .i64 p.o) := cell_below h1 (by simp)
  have y0 : w1.cell? ⟨w.heap.size + 1, 0, none⟩ = some (.int .u8 0) := cell_below h1 (by simp)
  have y1 : w1.cell? ⟨w.heap.size + 1, 1, none⟩ = some (.int .i64 0) := cell_below h1 (by simp)
  have y2 : w1.cell? ⟨w.heap.size + 1, 2, none⟩ = some (.int .i64 0) := cell_below h1 (by simp)
  have y3 : w1.cell? ⟨w.heap.size + 1, 3, none⟩ = some (.int .i64 0) := cell_below h1 (by simp)
  have f0 : ∀ j, w1.frozen? ⟨w.heap.size, j, none⟩ = false := fun j => by have := (bcell h1).2 w.heap.size j (by simp; omega); rw [this]; simp
  have f1 : ∀ j, w1.frozen? ⟨w.heap.size + 1, j, none⟩ = false := fun j => by have := (bcell h1).2 (w.heap.size + 1) j (by simp); rw [this]; simp
  clear h1
  go_wp2_with fail
  have cu := upon_cell w1 w1.heap.size
  refine wp_region_upon (by kernel_rfl) (by kernel_rfl) ?_
  repeat (go_big_quiet_step (first | fail))
  refine wpQuiet_nil ?_
  intro W' hb'
  have B2 := Lib.hid (B1.out.trans (hb'.mono B1.out.size))
  have HB' := Lib.hid hb'; clear hb'
  have v0 := cell_below HB'.out x0
  have v1 := cell_below HB'.out x1
  have v2 := cell_below HB'.out x2
  have v3 := cell_below HB'.out x3
  have u0 := cell_below HB'.out y0
  have u1 := cell_below HB'.out y1
  have u2 := cell_below HB'.out y2
  have u3 := cell_below HB'.out y3
  have k0 : ∀ j, W'.frozen? ⟨w.heap.size, j, none⟩ = false := fun j => ((bcell HB'.out).2 _ j z0).trans (f0 j)
  have k1 : ∀ j, W'.frozen? ⟨w.heap.size + 1, j, none⟩ = false := fun j => ((bcell HB'.out).2 _ j z1).trans (f1 j)
  clear x0 x1 x2 x3 y0 y1 y2 y3 f0 f1 cu r4 zg
  go_wp2
  refine bodyPost_ret (v := .tuple #[.agg #[.int .u8 p.k, .int .i64 p.n, .int .i64 p.b, .int .i64 (p.o + y)], .int .i64 0]) (by simp [results, Try.results59, go_sem, *]) rfl ⟨rfl, ?_⟩
  repeat (first | exact B2.out | refine Below.setCell ?_ (by simp) _ | refine Below.alloc ?_ (by simp; omega) _)


theorem rloaded_any {m : List Blk} {v : Value} (p : Val) (w : World) (hm : BsAt w v m) (hy : mayM m = true) :
    Calls Try.prog 56 #[v, .agg #[.int .u8 p.k, .int .i64 p.n, .int .i64 p.b, .int .i64 p.o]] w fun e w' => e = .returned (.tuple #[.agg #[.int .u8 (loadV m p).k, .int .i64 (loadV m p).n, .int .i64 (loadV m p).b, .int .i64 (loadV m p).o], .int .i64 (loadI m p)]) ∧ Below w.heap.size w w' := by
  unfold loadV loadI
  rw [asked_may hy]
  by_cases h : askI m p false = 0
  · cases ha : (blkAt m p).alive
    · simp only [h, Bool.false_eq_true, and_false, if_false, if_true]
      exact rload_dead p w hm hy h ha
    · simp only [h, and_self, if_true]
      exact rload_live p w hm hy h ha
  · simp only [h, false_and, if_false]
    exact rload_bad p _ w hm rfl h
theorem rfreed_any {m : List Blk} {v : Value} (p : Val) (w : World) (hm : BsAt w v m) (hy : mayM m = true) :
    Calls Try.prog 58 #[v, .agg #[.int .u8 p.k, .int .i64 p.n, .int .i64 p.b, .int .i64 p.o]] w (MadeP (freeR m p) (freeI m p) w) := by
  have ea := asked_may (p := p) (n := false) hy
  by_cases h : askI m p false = 0
  · have h' : askedI m p false = 0 := ea.trans h
    by_cases hd : 0 < (blkAt m p).dep
    · have e : freeI m p = 143 := by simp [freeI, h', hd]
      rw [freeR, e, if_neg (by decide)]
      exact rfree_deep p w hm hy h hd
    by_cases hpo : 0 < p.o
    · have e : freeI m p = 143 := by simp [freeI, h', hpo]
      rw [freeR, e, if_neg (by decide)]
      exact rfree_place p w hm hy h hd hpo
    cases ha : (blkAt m p).alive
    · have e : freeI m p = 142 := by simp [freeI, h', hd, hpo, ha]
      rw [freeR, e, if_neg (by decide)]
      exact rfree_dead p w hm hy h ⟨hd, ha⟩ hpo
    · have e : freeI m p = 0 := by simp [freeI, h', hd, hpo, ha]
      rw [freeR, e, if_pos rfl]
      exact rfree_good p w hm hy h ⟨hd, ha⟩ hpo
  · have e : freeI m p = askI m p false := by simp [freeI, ea, h]
    rw [freeR, e, if_neg h]
    exact rfree_bad p _ w hm rfl h
theorem rmoved_any {m : List Blk} {v : Value} (p : Val) (y : Int) (hy1 : -9223372036854775808 ≤ y) (hy2 : y ≤ 9223372036854775807) (w : World) (hm : BsAt w v m) (hy : mayM m = true) :
    Calls Try.prog 59 #[v, .agg #[.int .u8 p.k, .int .i64 p.n, .int .i64 p.b, .int .i64 p.o], .int .i64 y] w fun e w' => e = .returned (.tuple #[.agg #[.int .u8 (moveV m p y).k, .int .i64 (moveV m p y).n, .int .i64 (moveV m p y).b, .int .i64 (moveV m p y).o], .int .i64 (moveI m p y)]) ∧ Below w.heap.size w w' := by
  unfold moveV moveI
  rw [asked_may hy]
  by_cases h : askI m p false = 0
  · by_cases hbad : moveBad m p y
    · rw [if_neg (by simp [hbad]), if_pos h, if_pos hbad]
      rcases hbad with hb | hb
      · exact rmove_low p y hy1 hy2 w hm hy h ⟨hb, rfl⟩
      · by_cases hlo : y < -p.o
        · exact rmove_low p y hy1 hy2 w hm hy h ⟨hlo, rfl⟩
        · exact rmove_high p y hy1 hy2 w hm hy h hlo hb
    · rw [if_pos ⟨h, hbad⟩, if_pos h, if_neg hbad]
      have h2 : ¬ (y < -p.o ∨ (blkAt m p).cells.length - p.o ≤ y) := hbad
      exact rmove_good p y hy1 hy2 w hm hy h (fun hx => h2 (.inl hx)) (fun hx => h2 (.inr hx))
  · simp only [h, false_and, if_false]
    exact rmove_bad p y _ w hm rfl h

theorem rload_any {m : List Blk} {v : Value} (p : Val) (w : World) (hm : BsAt w v m) :
    Calls Try.prog 33 #[v, .agg #[.int .u8 p.k, .int .i64 p.n, .int .i64 p.b, .int .i64 p.o]] w fun e w' => e = .returned (.tuple #[.agg #[.int .u8 (loadV m p).k, .int .i64 (loadV m p).n, .int .i64 (loadV m p).b, .int .i64 (loadV m p).o], .int .i64 (loadI m p)]) ∧ Below w.heap.size w w' := by
  have HM := Lib.hid hm; clear hm
  cases h : mayM m
  · have e : loadI m p = 8 ∧ loadV m p = zero := by simp [loadI, loadV, askedI_no h]
    rw [e.1, e.2]
    have HY := Lib.hid h; clear h e
    go_enter Try.func33, Try.ntmps33
    go_wp2_with fail
    (with_reducible refine (rmay_at (b := false) _ (HM.out.below (((Below.refl _ _).alloc (Nat.le_refl _) _).alloc (by simp) _)) HY.out).mono ?_); rintro e w1 ⟨rfl, h1⟩
    obtain ⟨c1, f1⟩ := bcell h1
    have H1 := Lib.hid h1; clear h1
    go_wp2
    exact bodyPost_ret (v := .tuple #[.agg #[.int .u8 0, .int .i64 0, .int .i64 0, .int .i64 0], .int .i64 8]) (by simp [results, Try.results33, go_sem, c1]) rfl ⟨rfl, ((((b2 H1.out).setCell (by simp) _).setCell (by simp) _).setCell (by simp) _).setCell (by simp) _⟩
  · have HY := Lib.hid h; clear h
    go_enter Try.func33, Try.ntmps33
    go_wp2_with fail
    (with_reducible refine (rmay_at (b := true) _ (HM.out.below (((Below.refl _ _).alloc (Nat.le_refl _) _).alloc (by simp) _)) HY.out).mono ?_); rintro e w1 ⟨rfl, h1⟩
    have B1 := Lib.hid (b2 h1)
    have z1 : w.heap.size + 1 < w1.heap.size := by have := h1.size; simp at this; omega
    have z0 : w.heap.size < w1.heap.size := by omega
    have x0 : w1.cell? ⟨w.heap.size, 0, none⟩ = some (.int .u8 p.k) := cell_below h1 (by simp)
    have x1 : w1.cell? ⟨w.heap.size, 1, none⟩ = some (.int .i64 p.n) := cell_below h1 (by simp)
    have x2 : w1.cell? ⟨w.heap.size, 2, none⟩ = some (.int .i64 p.b) := cell_below h1 (by simp)
    have x3 : w1.cell? ⟨w.heap.size, 3, none⟩ = some (.int .i64 p.o) := cell_below h1 (by simp)
    have y0 : w1.cell? ⟨w.heap.size + 1, 0, none⟩ = some (.int .u8 0) := cell_below h1 (by simp)
    have y1 : w1.cell? ⟨w.heap.size + 1, 1, none⟩ = some (.int .i64 0) := cell_below h1 (by simp)
    have y2 : w1.cell? ⟨w.heap.size + 1, 2, none⟩ = some (.int .i64 0) := cell_below h1 (by simp)
    have y3 : w1.cell? ⟨w.heap.size + 1, 3, none⟩ = some (.int .i64 0) := cell_below h1 (by simp)
    have cf : ∀ j, w1.frozen? ⟨w.heap.size + 1, j, none⟩ = false := fun j => by rw [(bcell h1).2 _ _ (by simp)]; simp
    clear h1
    go_wp2_with fail
    (with_reducible refine (rloaded_any p _ (HM.out.below B1.out) HY.out).mono ?_); rintro e w2 ⟨rfl, h2⟩
    have B2 := Lib.hid (B1.out.trans (h2.mono B1.out.size))
    have z2 : w.heap.size + 1 < w2.heap.size := Nat.lt_of_lt_of_le z1 h2.size
    replace y0 := cell_below h2 y0
    replace y1 := cell_below h2 y1
    replace y2 := cell_below h2 y2
    replace y3 := cell_below h2 y3
    have cg : ∀ j, w2.frozen? ⟨w.heap.size + 1, j, none⟩ = false := fun j => by rw [(bcell h2).2 _ _ z1]; exact cf j
    clear h2 x0 x1 x2 x3 cf
    go_wp2
    refine bodyPost_ret (v := .tuple #[.agg #[.int .u8 (loadV m p).k, .int .i64 (loadV m p).n, .int .i64 (loadV m p).b, .int .i64 (loadV m p).o], .int .i64 (loadI m p)]) (by simp [results, Try.results33, go_sem, *]) rfl ⟨rfl, ?_⟩
    repeat (first | exact B2.out | refine Below.setCell ?_ (by simp) _ | refine Below.alloc ?_ (by simp; omega) _)

theorem rmove_any {m : List Blk} {v : Value} (p : Val) (y : Int) (hy1 : -9223372036854775808 ≤ y) (hy2 : y ≤ 9223372036854775807) (w : World) (hm : BsAt w v m) :
    Calls Try.prog 36 #[v, .agg #[.int .u8 p.k, .int .i64 p.n, .int .i64 p.b, .int .i64 p.o], .int .i64 y] w fun e w' => e = .returned (.tuple #[.agg #[.int .u8 (moveV m p y).k, .int .i64 (moveV m p y).n, .int .i64 (moveV m p y).b, .int .i64 (moveV m p y).o], .int .i64 (moveI m p y)]) ∧ Below w.heap.size w w' := by
  have HM := Lib.hid hm; clear hm
  cases h : mayM m
  · have e : moveI m p y = 8 ∧ moveV m p y = zero := by simp [moveI, moveV, askedI_no h]
    rw [e.1, e.2]
    have HY := Lib.hid h; clear h e
    go_enter Try.func36, Try.ntmps36
    go_wp2_with fail
    (with_reducible refine (rmay_at (b := false) _ (HM.out.below (((Below.refl _ _).alloc (Nat.le_refl _) _).alloc (by simp) _)) HY.out).mono ?_); rintro e w1 ⟨rfl, h1⟩
    obtain ⟨c1, f1⟩ := bcell h1
    have H1 := Lib.hid h1; clear h1
    go_wp2
    exact bodyPost_ret (v := .tuple #[.agg #[.int .u8 0, .int .i64 0, .int .i64 0, .int .i64 0], .int .i64 8]) (by simp [results, Try.results36, go_sem, c1]) rfl ⟨rfl, ((((b2 H1.out).setCell (by simp) _).setCell (by simp) _).setCell (by simp) _).setCell (by simp) _⟩
  · have HY := Lib.hid h; clear h
    go_enter Try.func36, Try.ntmps36
    go_wp2_with fail
    (with_reducible refine (rmay_at (b := true) _ (HM.out.below (((Below.refl _ _).alloc (Nat.le_refl _) _).alloc (by simp) _)) HY.out).mono ?_); rintro e w1 ⟨rfl, h1⟩
    have B1 := Lib.hid (b2 h1)
    have z1 : w.heap.size + 1 < w1.heap.size := by have := h1.size; simp at this; omega
    have z0 : w.heap.size < w1.heap.size := by omega
    have x0 : w1.cell? ⟨w.heap.size, 0, none⟩ = some (.int .u8 p.k) := cell_below h1 (by simp)
    have x1 : w1.cell? ⟨w.heap.size, 1, none⟩ = some (.int .i64 p.n) := cell_below h1 (by simp)
    have x2 : w1.cell? ⟨w.heap.size, 2, none⟩ = some (.int .i64 p.b) := cell_below h1 (by simp)
    have x3 : w1.cell? ⟨w.heap.size, 3, none⟩ = some (.int .i64 p.o) := cell_below h1 (by simp)
    have y0 : w1.cell? ⟨w.heap.size + 1, 0, none⟩ = some (.int .u8 0) := cell_below h1 (by simp)
    have y1 : w1.cell? ⟨w.heap.size + 1, 1, none⟩ = some (.int .i64 0) := cell_below h1 (by simp)
    have y2 : w1.cell? ⟨w.heap.size + 1, 2, none⟩ = some (.int .i64 0) := cell_below h1 (by simp)
    have y3 : w1.cell? ⟨w.heap.size + 1, 3, none⟩ = some (.int .i64 0) := cell_below h1 (by simp)
    have cf : ∀ j, w1.frozen? ⟨w.heap.size + 1, j, none⟩ = false := fun j => by rw [(bcell h1).2 _ _ (by simp)]; simp
    clear h1
    go_wp2_with fail
    (with_reducible refine (rmoved_any p y hy1 hy2 _ (HM.out.below B1.out) HY.out).mono ?_); rintro e w2 ⟨rfl, h2⟩
    have B2 := Lib.hid (B1.out.trans (h2.mono B1.out.size))
    have z2 : w.heap.size + 1 < w2.heap.size := Nat.lt_of_lt_of_le z1 h2.size
    replace y0 := cell_below h2 y0
    replace y1 := cell_below h2 y1
    replace y2 := cell_below h2 y2
    replace y3 := cell_below h2 y3
    have cg : ∀ j, w2.frozen? ⟨w.heap.size + 1, j, none⟩ = false := fun j => by rw [(bcell h2).2 _ _ z1]; exact cf j
    clear h2 x0 x1 x2 x3 cf
    go_wp2
    refine bodyPost_ret (v := .tuple #[.agg #[.int .u8 (moveV m p y).k, .int .i64 (moveV m p y).n, .int .i64 (moveV m p y).b, .int .i64 (moveV m p y).o], .int .i64 (moveI m p y)]) (by simp [results, Try.results36, go_sem, *]) rfl ⟨rfl, ?_⟩
    repeat (first | exact B2.out | refine Below.setCell ?_ (by simp) _ | refine Below.alloc ?_ (by simp; omega) _)

theorem rfree_any {m : List Blk} {v : Value} (p : Val) (w : World) (hm : BsAt w v m) :
    Calls Try.prog 35 #[v, .agg #[.int .u8 p.k, .int .i64 p.n, .int .i64 p.b, .int .i64 p.o]] w (MadeP (freeR m p) (freeI m p) w) := by
  have HM := Lib.hid hm; clear hm
  cases h : mayM m
  · have e : freeI m p = 8 := by simp [freeI, askedI_no h]
    rw [freeR, e, if_neg (by decide)]
    have HY := Lib.hid h; clear h e
    go_enter Try.func35, Try.ntmps35
    go_wp2_with fail
    (with_reducible refine (rmay_at (b := false) _ (HM.out.below ((Below.refl _ _).alloc (Nat.le_refl _) _)) HY.out).mono ?_); rintro e w1 ⟨rfl, h1⟩
    have H1 := Lib.hid h1; clear h1
    go_wp2
    go_ret2
    exact ⟨_, rfl, Lay.no _ _, ((Below.refl _ _).alloc (Nat.le_refl _) _).trans (H1.out.mono (by simp))⟩
  · have HY := Lib.hid h; clear h
    go_enter Try.func35, Try.ntmps35
    go_wp2_with fail
    (with_reducible refine (rmay_at (b := true) _ (HM.out.below ((Below.refl _ _).alloc (Nat.le_refl _) _)) HY.out).mono ?_); rintro e w1 ⟨rfl, h1⟩
    have B1 : Hid (Below w.heap.size w w1) := ((Below.refl _ _).alloc (Nat.le_refl _) _).trans (h1.mono (by simp))
    have z0 : w.heap.size < w1.heap.size := by have := h1.size; simp at this; omega
    have x0 : w1.cell? ⟨w.heap.size, 0, none⟩ = some (.int .u8 p.k) := cell_below h1 (by simp)
    have x1 : w1.cell? ⟨w.heap.size, 1, none⟩ = some (.int .i64 p.n) := cell_below h1 (by simp)
    have x2 : w1.cell? ⟨w.heap.size, 2, none⟩ = some (.int .i64 p.b) := cell_below h1 (by simp)
    have x3 : w1.cell? ⟨w.heap.size, 3, none⟩ = some (.int .i64 p.o) := cell_below h1 (by simp)
    clear h1
    go_wp2_with fail
    (with_reducible refine (rfreed_any p _ (HM.out.below B1.out) HY.out).mono ?_); rintro e w2 ⟨v2, rfl, lay, h2⟩
    have LY := Lib.hid (lay.lower (base' := w.heap.size) B1.out.size)
    have B2 := Lib.hid (B1.out.trans (h2.mono B1.out.size))
    clear lay h2 x0 x1 x2 x3 z0
    go_wp2
    go_ret2
    exact ⟨_, rfl, LY.out, B2.out⟩

end Go.Proofs.Ytmelamlngjflkaa

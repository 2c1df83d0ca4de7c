/- The contracts of Free and of Pop: what they answer is the memory, turned, in blocks of its own; or nothing, and the error. -/
import Derived.Test.YtmelamlngjflkaaRows
import Derived.WalkKit
import Derived.ProofKit
import Derived.OpenShut
import Derived.Below
import Derived.Outline
import Derived.LoopTactic
import Derived.Test.YtmelamlngjflkaaRep
import Derived.Test.YtmelamlngjflkaaU
import Derived.Lib.Hide
import Derived.RegionTactic
import Derived.BigRegion
import Derived.Deep.RegionWith
import Derived.Test.YtmelamlngjflkaaD
import Derived.Test.YtmelamlngjflkaaI
namespace Go.Proofs.Ytmelamlngjflkaa
open Go.ChangeShapes Go.WideShapes Go.ChangeAt Go.RowKit
set_option linter.unusedVariables false

theorem Lay.no (base : Nat) (w : World) : Lay base w (.slice none 0 0) [] := ⟨[], rfl, World.ownsRow_nil _ _ _ _, fun g hg => by simp [Value.ownBlock] at hg, fun i j p q _ hi => by simp at hi⟩
theorem Lay.lower {base base' : Nat} {w : World} {v : Value} {m : List Blk} (h : Lay base w v m) (hb : base' ≤ base) : Lay base' w v m := by
  obtain ⟨ps, h1, h2, h3, h4⟩ := h
  refine ⟨ps, h1, own_lower h2 hb, fun g hg p hp => ?_, h4⟩
  obtain ⟨A, cp, hv, h5, h6, hx⟩ := h3 g hg p hp
  refine ⟨A, cp, hv, h5, h6, fun k x hk => ?_⟩
  obtain ⟨b, o, e, h7, r⟩ := hx k x hk
  exact ⟨b, o, e, Nat.le_trans hb h7, r⟩
theorem Lay.head {base : Nat} {w : World} {g n cap : Nat} {m : List Blk} (h : Lay base w (.slice (some ⟨g, 0, none⟩) n cap) m) {i : Nat} {b : Blk} (hi : m[i]? = some b) :
    w.cell? ⟨g, i * 5, none⟩ = some (.int .i64 b.site) ∧ w.cell? ⟨g, i * 5 + 1, none⟩ = some (.int .i64 b.ty) ∧ w.cell? ⟨g, i * 5 + 2, none⟩ = some (.int .i64 b.dep) ∧ w.cell? ⟨g, i * 5 + 3, none⟩ = some (.bool b.alive) ∧ (∀ j, w.frozen? ⟨g, j, none⟩ = false) ∧ base ≤ g ∧ g < w.heap.size := by
  obtain ⟨g', o', e, hg, q0, q1, q2, q3, _⟩ := h.reads.get hi
  injection e with e
  injection e with e1 e2
  subst e1 e2
  simp only [Nat.zero_add] at q0 q1 q2 q3
  obtain ⟨g', cap', ps, e, _, hb, _, ho, _⟩ := h.form (by have := (List.getElem?_eq_some_iff.1 hi).1; omega)
  injection e with e _ _
  injection e with e
  injection e with e
  subst e
  exact ⟨q0, q1, q2, q3, fun j => ho.frozenAt j, hb, hg⟩
/-- A memory that is answered, and an error. -/
def MadeP (r : List Blk) (i : Int) (w : World) (e : Ending) (w' : World) : Prop := ∃ v : Value, e = .returned (.tuple #[v, .int .i64 i]) ∧ Lay w.heap.size w' v r ∧ Below w.heap.size w w'

theorem mayM_len {m : List Blk} (h : mayM m = true) : m.length ≤ 4096 ∧ ∀ b ∈ m, b.cells.length ≤ 40 := by
  simp only [mayM, Bool.and_eq_true, decide_eq_true_eq, List.all_eq_true] at h
  refine ⟨h.1, fun b hb => ?_⟩
  have := h.2 b hb
  simp only [blkB, Bool.and_eq_true, decide_eq_true_eq] at this
  omega

def freeI (m : List Blk) (p : Val) : Int := if askedI m p false = 0 then (if 0 < (blkAt m p).dep ∨ 0 < p.o then 143 else if (blkAt m p).alive then 0 else 142) else askedI m p false
def freeR (m : List Blk) (p : Val) : List Blk := if freeI m p = 0 then m.set (p.b.toNat - 1) { blkAt m p with alive := false } else []

theorem free_bad {m : List Blk} {v : Value} (p : Val) (i : Int) (w : World) (hm : BsAt w v m) (h : askedI m p false = i) (hi : ¬ i = 0) :
    Calls Try.prog 15 #[v, .agg #[.int .u8 p.k, .int .i64 p.n, .int .i64 p.b, .int .i64 p.o]] w (MadeP [] i w) := by
  have HM := Lib.hid hm; clear hm
  have HI := Lib.hid h; clear h
  have e1 : (i == 0) = false := by simpa using hi
  have e2 : (i != 0) = true := by simpa using hi
  clear hi
  go_enter Try.func15, Try.ntmps15
  go_wp2_with fail
  (with_reducible refine (asked_is p false i _ (HM.out.below ((Below.refl _ _).alloc (Nat.le_refl _) _)) HI.out).mono ?_); rintro e w1 ⟨rfl, h1⟩
  have H1 := Lib.hid h1; clear h1
  go_wp2
  go_ret2
  exact ⟨_, rfl, Lay.no _ _, ((Below.refl _ _).alloc (Nat.le_refl _) _).trans (H1.out.mono (by simp))⟩

set_option maxHeartbeats 1000000 in
theorem free_deep {m : List Blk} {v : Value} (p : Val) (w : World) (hm : BsAt w v m) (h : askedI m p false = 0) (hh : 0 < (blkAt m p).dep) :
    Calls Try.prog 15 #[v, .agg #[.int .u8 p.k, .int .i64 p.n, .int .i64 p.b, .int .i64 p.o]] w (MadeP ([]) 143 w) := by
  have hm' := hm
  obtain ⟨A, c, rfl, hl, hq⟩ := hm'
  clear hq
  obtain ⟨hy, hk, his, hn⟩ := askedI_zero h
  have hb : ¬ p.b = 0 := by simpa using hn
  obtain ⟨hb0, hbl, ho0, b, hgb, heb, hol, hce⟩ := in_of hk hb his
  rw [heb] at hh
  obtain ⟨g, og, rfl, hg, q0, q1, q2, q3, hv, q4, h5⟩ := hm.get hgb
  obtain ⟨Ai, ci, rfl, hl5, hx5⟩ := h5
  clear hx5
  have HML := Lib.hid (mayM_len hy)
  have HM := Lib.hid hm; clear hm
  have HI := Lib.hid h; clear h
  have HGB := Lib.hid hgb
  have HEB := Lib.hid heb
  clear hy hk his hn hb hgb heb hce
  go_enter Try.func15, Try.ntmps15
  go_wp2_with fail
  (with_reducible refine (asked_is p false 0 _ (HM.out.below ((Below.refl _ _).alloc (Nat.le_refl _) _)) HI.out).mono ?_); rintro e w1 ⟨rfl, h1⟩
  have B1 : Hid (Below w.heap.size w w1) := ((Below.refl _ _).alloc (Nat.le_refl _) _).trans (h1.mono (by simp))
  have z0 : w.heap.size < w1.heap.size := by have := h1.size; simp at this; omega
  have r0 := cell_below B1.out q0
  have r1 := cell_below B1.out q1
  have r2 := cell_below B1.out q2
  have r3 := cell_below B1.out q3
  have r4 := cell_below B1.out q4
  have zg : g < w1.heap.size := by omega
  clear q0 q1 q2 q3 q4
  have x0 : w1.cell? ⟨w.heap.size, 0, none⟩ = some (.int .u8 p.k) := cell_below h1 (by simp)
  have x1 : w1.cell? ⟨w.heap.size, 1, none⟩ = some (.int .i64 p.n) := cell_below h1 (by simp)
  have x2 : w1.cell? ⟨w.heap.size, 2, none⟩ = some (.int .i64 p.b) := cell_below h1 (by simp)
  have x3 : w1.cell? ⟨w.heap.size, 3, none⟩ = some (.int .i64 p.o) := cell_below h1 (by simp)
  clear h1
  go_wp2
  go_ret2
  exact ⟨_, rfl, Lay.no _ _, B1.out.alloc B1.out.size _⟩

set_option maxHeartbeats 1000000 in
theorem free_place {m : List Blk} {v : Value} (p : Val) (w : World) (hm : BsAt w v m) (h : askedI m p false = 0) (hh : ¬ 0 < (blkAt m p).dep) (hpo : 0 < p.o) :
    Calls Try.prog 15 #[v, .agg #[.int .u8 p.k, .int .i64 p.n, .int .i64 p.b, .int .i64 p.o]] w (MadeP ([]) 143 w) := by
  have hm' := hm
  obtain ⟨A, c, rfl, hl, hq⟩ := hm'
  clear hq
  obtain ⟨hy, hk, his, hn⟩ := askedI_zero h
  have hb : ¬ p.b = 0 := by simpa using hn
  obtain ⟨hb0, hbl, ho0, b, hgb, heb, hol, hce⟩ := in_of hk hb his
  rw [heb] at hh
  obtain ⟨g, og, rfl, hg, q0, q1, q2, q3, hv, q4, h5⟩ := hm.get hgb
  obtain ⟨Ai, ci, rfl, hl5, hx5⟩ := h5
  clear hx5
  have HML := Lib.hid (mayM_len hy)
  have HM := Lib.hid hm; clear hm
  have HI := Lib.hid h; clear h
  have HGB := Lib.hid hgb
  have HEB := Lib.hid heb
  clear hy hk his hn hb hgb heb hce
  go_enter Try.func15, Try.ntmps15
  go_wp2_with fail
  (with_reducible refine (asked_is p false 0 _ (HM.out.below ((Below.refl _ _).alloc (Nat.le_refl _) _)) HI.out).mono ?_); rintro e w1 ⟨rfl, h1⟩
  have B1 : Hid (Below w.heap.size w w1) := ((Below.refl _ _).alloc (Nat.le_refl _) _).trans (h1.mono (by simp))
  have z0 : w.heap.size < w1.heap.size := by have := h1.size; simp at this; omega
  have r0 := cell_below B1.out q0
  have r1 := cell_below B1.out q1
  have r2 := cell_below B1.out q2
  have r3 := cell_below B1.out q3
  have r4 := cell_below B1.out q4
  have zg : g < w1.heap.size := by omega
  clear q0 q1 q2 q3 q4
  have x0 : w1.cell? ⟨w.heap.size, 0, none⟩ = some (.int .u8 p.k) := cell_below h1 (by simp)
  have x1 : w1.cell? ⟨w.heap.size, 1, none⟩ = some (.int .i64 p.n) := cell_below h1 (by simp)
  have x2 : w1.cell? ⟨w.heap.size, 2, none⟩ = some (.int .i64 p.b) := cell_below h1 (by simp)
  have x3 : w1.cell? ⟨w.heap.size, 3, none⟩ = some (.int .i64 p.o) := cell_below h1 (by simp)
  clear h1
  go_wp2
  go_ret2
  exact ⟨_, rfl, Lay.no _ _, B1.out.alloc B1.out.size _⟩

set_option maxHeartbeats 1000000 in
theorem free_dead {m : List Blk} {v : Value} (p : Val) (w : World) (hm : BsAt w v m) (h : askedI m p false = 0) (hh : ¬ 0 < (blkAt m p).dep ∧ (blkAt m p).alive = false) (hpo : ¬ 0 < p.o) :
    Calls Try.prog 15 #[v, .agg #[.int .u8 p.k, .int .i64 p.n, .int .i64 p.b, .int .i64 p.o]] w (MadeP ([]) 142 w) := by
  have hm' := hm
  obtain ⟨A, c, rfl, hl, hq⟩ := hm'
  clear hq
  obtain ⟨hy, hk, his, hn⟩ := askedI_zero h
  have hb : ¬ p.b = 0 := by simpa using hn
  obtain ⟨hb0, hbl, ho0, b, hgb, heb, hol, hce⟩ := in_of hk hb his
  rw [heb] at hh
  obtain ⟨g, og, rfl, hg, q0, q1, q2, q3, hv, q4, h5⟩ := hm.get hgb
  obtain ⟨Ai, ci, rfl, hl5, hx5⟩ := h5
  clear hx5
  have HML := Lib.hid (mayM_len hy)
  have HM := Lib.hid hm; clear hm
  have HI := Lib.hid h; clear h
  have HGB := Lib.hid hgb
  have HEB := Lib.hid heb
  clear hy hk his hn hb hgb heb hce
  obtain ⟨hh1, hh2⟩ := hh
  rw [hh2] at q3
  clear hh2
  go_enter Try.func15, Try.ntmps15
  go_wp2_with fail
  (with_reducible refine (asked_is p false 0 _ (HM.out.below ((Below.refl _ _).alloc (Nat.le_refl _) _)) HI.out).mono ?_); rintro e w1 ⟨rfl, h1⟩
  have B1 : Hid (Below w.heap.size w w1) := ((Below.refl _ _).alloc (Nat.le_refl _) _).trans (h1.mono (by simp))
  have z0 : w.heap.size < w1.heap.size := by have := h1.size; simp at this; omega
  have r0 := cell_below B1.out q0
  have r1 := cell_below B1.out q1
  have r2 := cell_below B1.out q2
  have r3 := cell_below B1.out q3
  have r4 := cell_below B1.out q4
  have zg : g < w1.heap.size := by omega
  clear q0 q1 q2 q3 q4
  have x0 : w1.cell? ⟨w.heap.size, 0, none⟩ = some (.int .u8 p.k) := cell_below h1 (by simp)
  have x1 : w1.cell? ⟨w.heap.size, 1, none⟩ = some (.int .i64 p.n) := cell_below h1 (by simp)
  have x2 : w1.cell? ⟨w.heap.size, 2, none⟩ = some (.int .i64 p.b) := cell_below h1 (by simp)
  have x3 : w1.cell? ⟨w.heap.size, 3, none⟩ = some (.int .i64 p.o) := cell_below h1 (by simp)
  clear h1
  go_wp2
  go_ret2
  exact ⟨_, rfl, Lay.no _ _, B1.out.alloc B1.out.size _⟩

set_option maxHeartbeats 1000000 in
theorem free_good {m : List Blk} {v : Value} (p : Val) (w : World) (hm : BsAt w v m) (h : askedI m p false = 0) (hh : ¬ 0 < (blkAt m p).dep ∧ (blkAt m p).alive = true) (hpo : ¬ 0 < p.o) :
    Calls Try.prog 15 #[v, .agg #[.int .u8 p.k, .int .i64 p.n, .int .i64 p.b, .int .i64 p.o]] w (MadeP (m.set (p.b.toNat - 1) { blkAt m p with alive := false }) 0 w) := by
  have hm' := hm
  obtain ⟨A, c, rfl, hl, hq⟩ := hm'
  clear hq
  obtain ⟨hy, hk, his, hn⟩ := askedI_zero h
  have hb : ¬ p.b = 0 := by simpa using hn
  obtain ⟨hb0, hbl, ho0, b, hgb, heb, hol, hce⟩ := in_of hk hb his
  rw [heb] at hh
  obtain ⟨g, og, rfl, hg, q0, q1, q2, q3, hv, q4, h5⟩ := hm.get hgb
  obtain ⟨Ai, ci, rfl, hl5, hx5⟩ := h5
  clear hx5
  have HML := Lib.hid (mayM_len hy)
  have HM := Lib.hid hm; clear hm
  have HI := Lib.hid h; clear h
  have HGB := Lib.hid hgb
  have HEB := Lib.hid heb
  clear hy hk his hn hb hgb heb hce
  obtain ⟨hh1, hh2⟩ := hh
  rw [hh2] at q3
  clear hh2
  go_enter Try.func15, Try.ntmps15
  go_wp2_with fail
  (with_reducible refine (asked_is p false 0 _ (HM.out.below ((Below.refl _ _).alloc (Nat.le_refl _) _)) HI.out).mono ?_); rintro e w1 ⟨rfl, h1⟩
  have B1 : Hid (Below w.heap.size w w1) := ((Below.refl _ _).alloc (Nat.le_refl _) _).trans (h1.mono (by simp))
  have z0 : w.heap.size < w1.heap.size := by have := h1.size; simp at this; omega
  have r0 := cell_below B1.out q0
  have r1 := cell_below B1.out q1
  have r2 := cell_below B1.out q2
  have r3 := cell_below B1.out q3
  have r4 := cell_below B1.out q4
  have zg : g < w1.heap.size := by omega
  clear q0 q1 q2 q3 q4
  have x0 : w1.cell? ⟨w.heap.size, 0, none⟩ = some (.int .u8 p.k) := cell_below h1 (by simp)
  have x1 : w1.cell? ⟨w.heap.size, 1, none⟩ = some (.int .i64 p.n) := cell_below h1 (by simp)
  have x2 : w1.cell? ⟨w.heap.size, 2, none⟩ = some (.int .i64 p.b) := cell_below h1 (by simp)
  have x3 : w1.cell? ⟨w.heap.size, 3, none⟩ = some (.int .i64 p.o) := cell_below h1 (by simp)
  clear h1
  go_wp2_with fail
  refine (twin_any _ (HM.out.below (B1.out.alloc B1.out.size _)) HML.out.1 HML.out.2).mono ?_
  rintro e w2 ⟨v2, rfl, hlay, h2⟩
  have B2 : Hid (Below w.heap.size w w2) := (B1.out.alloc B1.out.size _).trans (h2.mono (by have := B1.out.size; simp; omega))
  have hlt := (List.getElem?_eq_some_iff.1 HGB.out).1
  obtain ⟨g2, cap, ps, rfl, _, hbg, hg2, _, _, _⟩ := hlay.form (by omega)
  have x2' : w2.cell? ⟨w.heap.size, 2, none⟩ = some (.int .i64 p.b) := cell_below h2 (by rw [World.cell?_alloc_lt _ _ _ z0]; exact x2)
  obtain ⟨_, _, _, hcell, hfr0, _, _⟩ := hlay.head HGB.out
  have hfr : w2.frozen? ⟨g2, (p.b.toNat - 1) * 5 + 3, none⟩ = false := hfr0 _
  have HLAY := Lib.hid (hlay.lower (base' := w.heap.size) (by have := B1.out.size; simp; omega))
  have hbg2 : w.heap.size ≤ g2 := Nat.le_trans (by have := B1.out.size; simp; omega) hbg
  clear hlay h2 r0 r1 r2 r3 r4 x0 x1 x2 x3 hbg hfr0
  go_wp2
  go_ret2
  refine ⟨_, rfl, ?_, B2.out.setCell hbg2 _⟩
  have := HLAY.out.field HGB.out (b' := { b with alive := false }) rfl (j := 3) (by omega) (u := .bool false) (fun _ => rfl)
  rw [HEB.out]
  exact this

theorem free_any {m : List Blk} {v : Value} (p : Val) (w : World) (hm : BsAt w v m) :
    Calls Try.prog 15 #[v, .agg #[.int .u8 p.k, .int .i64 p.n, .int .i64 p.b, .int .i64 p.o]] w (MadeP (freeR m p) (freeI m p) w) := by
  by_cases h : askedI m p false = 0
  · by_cases hd : 0 < (blkAt m p).dep
    · have e : freeI m p = 143 := by simp [freeI, h, hd]
      rw [freeR, e, if_neg (by decide)]
      exact free_deep p w hm h hd
    by_cases hpo : 0 < p.o
    · have e : freeI m p = 143 := by simp [freeI, h, hpo]
      rw [freeR, e, if_neg (by decide)]
      exact free_place p w hm h hd hpo
    cases ha : (blkAt m p).alive
    · have e : freeI m p = 142 := by simp [freeI, h, hd, hpo, ha]
      rw [freeR, e, if_neg (by decide)]
      exact free_dead p w hm h ⟨hd, ha⟩ hpo
    · have e : freeI m p = 0 := by simp [freeI, h, hd, hpo, ha]
      rw [freeR, e, if_pos rfl]
      exact free_good p w hm h ⟨hd, ha⟩ hpo
  · have e : freeI m p = askedI m p false := by simp [freeI, h]
    rw [freeR, e, if_neg h]
    exact free_bad p _ w hm rfl h

end Go.Proofs.Ytmelamlngjflkaa

/- The contracts of what only reads a memory: asked, Load, Move, Depth, Holds; by plain functions. -/
import Derived.Test.YtmelamlngjflkaaRows
import Derived.WalkKit
import Derived.ProofKit
import Derived.OpenShut
import Derived.Below
import Derived.Outline
import Derived.LoopTactic
import Derived.Test.YtmelamlngjflkaaRep
import Derived.Test.YtmelamlngjflkaaU
import Derived.Lib.Hide
import Derived.Test.YtmelamlngjflkaaC
namespace Go.Proofs.Ytmelamlngjflkaa
open Go.ChangeShapes Go.WideShapes Go.ChangeAt Go.RowKit
set_option linter.unusedVariables false

def blkAt (m : List Blk) (p : Val) : Blk := (m[p.b.toNat - 1]?).getD ⟨0, 0, 0, false, []⟩
def cellAt (m : List Blk) (p : Val) : Val := ((blkAt m p).cells[p.o.toNat]?).getD ⟨0, 0, 0, 0⟩
def askI (m : List Blk) (p : Val) (null : Bool) : Int := if ¬ (p.k = 2 ∧ isB m p = true) then 2 else if p.b = 0 ∧ null = false then 140 else 0
def askedI (m : List Blk) (p : Val) (null : Bool) : Int := if mayM m then askI m p null else 8
def zero : Val := ⟨0, 0, 0, 0⟩
def loadV (m : List Blk) (p : Val) : Val := if askedI m p false = 0 ∧ (blkAt m p).alive = true then cellAt m p else zero
def loadI (m : List Blk) (p : Val) : Int := if askedI m p false = 0 then (if (blkAt m p).alive then 0 else 142) else askedI m p false

/-- What is known of a pointer that is one of a memory, and not null. -/
theorem in_of {m : List Blk} {p : Val} (hk : p.k = 2) (hb : ¬ p.b = 0) (h : isB m p = true) :
    0 < p.b ∧ p.b ≤ m.length ∧ 0 ≤ p.o ∧ ∃ b, m[p.b.toNat - 1]? = some b ∧ blkAt m p = b ∧ p.o < b.cells.length ∧ b.cells[p.o.toNat]? = some (cellAt m p) := by
  simp only [isB, Bool.and_eq_true] at h
  have hm := mayB_true.1 h.1
  have hi := h.2
  have e0 : (p.b == 0) = false := by simpa using hb
  have e1 : (p.k != 2) = false := by simp [hk]
  simp only [inB, e0, e1, Bool.false_or, Bool.and_eq_true, decide_eq_true_eq] at hi
  have hlt : p.b.toNat - 1 < m.length := by omega
  have hg := List.getElem?_eq_getElem hlt
  rw [hg] at hi
  simp only [Option.map_some, Option.getD_some] at hi
  have ho : p.o.toNat < m[p.b.toNat - 1].cells.length := by omega
  refine ⟨by omega, hi.1, by omega, _, hg, by simp [blkAt, hg], hi.2, ?_⟩
  simp only [cellAt, blkAt, hg, Option.getD_some, List.getElem?_eq_getElem ho]

theorem askI_zero {m : List Blk} {p : Val} {null : Bool} (h : askI m p null = 0) : p.k = 2 ∧ isB m p = true ∧ (null = true ∨ ¬ p.b = 0) := by
  unfold askI at h
  split at h
  · omega
  · rename_i h1
    split at h
    · omega
    · rename_i h2
      have h1' := Classical.not_not.1 h1
      refine ⟨h1'.1, h1'.2, ?_⟩
      cases null
      · exact .inr fun hb => h2 ⟨hb, rfl⟩
      · exact .inl rfl
theorem askedI_zero {m : List Blk} {p : Val} {null : Bool} (h : askedI m p null = 0) : mayM m = true ∧ p.k = 2 ∧ isB m p = true ∧ (null = true ∨ ¬ p.b = 0) := by
  unfold askedI at h
  split at h
  · rename_i hm
    exact ⟨hm, askI_zero h⟩
  · omega
theorem checkI_no {m : List Blk} (h : mayM m = false) : checkI m = 8 := by simp [checkI, h]
theorem checkI_yes {m : List Blk} (h : mayM m = true) : checkI m = 0 := by simp [checkI, h]
theorem askedI_no {m : List Blk} {p : Val} {null : Bool} (h : mayM m = false) : askedI m p null = 8 := by simp [askedI, h]

theorem check_yes {m : List Blk} {v : Value} (w : World) (hm : BsAt w v m) (h : mayM m = true) : Calls Try.prog 22 #[v] w fun e w' => e = .returned (.int .i64 0) ∧ Below w.heap.size w w' := by
  rw [← checkI_yes h]; exact check_any w hm
theorem check_no {m : List Blk} {v : Value} (w : World) (hm : BsAt w v m) (h : mayM m = false) : Calls Try.prog 22 #[v] w fun e w' => e = .returned (.int .i64 8) ∧ Below w.heap.size w w' := by
  rw [← checkI_no h]; exact check_any w hm
theorem is_yes {m : List Blk} {v : Value} (x : Val) (w : World) (hm : BsAt w v m) (h : isB m x = true) :
    Calls Try.prog 41 #[v, .agg #[.int .u8 x.k, .int .i64 x.n, .int .i64 x.b, .int .i64 x.o]] w fun e w' => e = .returned (.bool true) ∧ Below w.heap.size w w' := by rw [← h]; exact is_any x w hm
theorem is_not {m : List Blk} {v : Value} (x : Val) (w : World) (hm : BsAt w v m) (h : isB m x = false) :
    Calls Try.prog 41 #[v, .agg #[.int .u8 x.k, .int .i64 x.n, .int .i64 x.b, .int .i64 x.o]] w fun e w' => e = .returned (.bool false) ∧ Below w.heap.size w w' := by rw [← h]; exact is_any x w hm

theorem asked_any {m : List Blk} {v : Value} (p : Val) (null : Bool) (w : World) (hm : BsAt w v m) :
    Calls Try.prog 40 #[v, .agg #[.int .u8 p.k, .int .i64 p.n, .int .i64 p.b, .int .i64 p.o], .bool null] w fun e w' => e = .returned (.int .i64 (askedI m p null)) ∧ Below w.heap.size w w' := by
  have HM := Lib.hid hm; clear hm
  have B0 := fun (o : Obj) => (Below.refl w.heap.size w).alloc (Nat.le_refl _) o
  cases hmay : mayM m
  · rw [askedI_no hmay]
    have HY := Lib.hid hmay; clear hmay
    have B1 := Lib.hid B0; clear B0
    go_enter Try.func40, Try.ntmps40
    go_wp2_with fail
    (with_reducible refine (check_no _ (HM.out.below (B1.out _)) HY.out).mono ?_); rintro e w1 ⟨rfl, h1⟩
    go_wp2
    go_ret
    exact ⟨rfl, (B1.out _).trans (h1.mono (by simp))⟩
  have e0 : askedI m p null = askI m p null := by simp [askedI, hmay]
  rw [e0]
  clear e0
  have HY := Lib.hid hmay; clear hmay
  have B1 := Lib.hid B0; clear B0
  by_cases hk : p.k = 2
  · cases hi : isB m p
    · have E : askI m p null = 2 := by simp [askI, hi]
      rw [E]
      clear E
      have HI := Lib.hid hi; clear hi
      have hk1 : (p.k == 2) = true := by simpa using hk
      have hk2 : (p.k != 2) = false := by simpa using hk
      clear hk
      go_enter Try.func40, Try.ntmps40
      go_wp2_with fail
      (with_reducible refine (check_yes _ (HM.out.below (B1.out _)) HY.out).mono ?_); rintro e w1 ⟨rfl, h1⟩
      obtain ⟨c1, f1⟩ := bcell h1
      have H1 := Lib.hid h1; clear h1
      go_wp2_with fail
      (with_reducible refine (is_not p _ (HM.out.below ((B1.out _).trans (H1.out.mono (by simp)))) HI.out).mono ?_); rintro e w2 ⟨rfl, h2⟩
      go_wp2
      go_ret
      exact ⟨rfl, ((B1.out _).trans (H1.out.mono (by simp))).trans (h2.mono (by have := H1.out.size; simp at this; omega))⟩
    · by_cases hb : p.b = 0
      · have E : askI m p null = if null = false then 140 else 0 := by unfold askI; rw [if_neg (by simp [hk, hi])]; simp [hb]
        rw [E]
        clear E
        cases null
        all_goals
          simp only [Bool.true_eq_false, if_true, if_false]
          have HI := Lib.hid hi; clear hi
          have hk1 : (p.k == 2) = true := by simpa using hk
          have hk2 : (p.k != 2) = false := by simpa using hk
          have hb1 : (p.b == 0) = true := by simpa using hb
          clear hk hb
          go_enter Try.func40, Try.ntmps40
          go_wp2_with fail
          (with_reducible refine (check_yes _ (HM.out.below (B1.out _)) HY.out).mono ?_); rintro e w1 ⟨rfl, h1⟩
          obtain ⟨c1, f1⟩ := bcell h1
          have H1 := Lib.hid h1; clear h1
          go_wp2_with fail
          (with_reducible refine (is_yes p _ (HM.out.below ((B1.out _).trans (H1.out.mono (by simp)))) HI.out).mono ?_); rintro e w2 ⟨rfl, h2⟩
          obtain ⟨c2, f2⟩ := bcell h2
          have z1 : w.heap.size < w1.heap.size := by have := H1.out.size; simp at this; omega
          have H2 := Lib.hid h2; clear h2
          go_wp2
          go_ret
          exact ⟨rfl, ((B1.out _).trans (H1.out.mono (by simp))).trans (H2.out.mono (by omega))⟩
      · have E : askI m p null = 0 := by unfold askI; rw [if_neg (by simp [hk, hi]), if_neg (by simp [hb])]
        rw [E]
        clear E
        have HI := Lib.hid hi; clear hi
        have hk1 : (p.k == 2) = true := by simpa using hk
        have hk2 : (p.k != 2) = false := by simpa using hk
        have hb1 : (p.b == 0) = false := by simpa using hb
        clear hk hb
        go_enter Try.func40, Try.ntmps40
        go_wp2_with fail
        (with_reducible refine (check_yes _ (HM.out.below (B1.out _)) HY.out).mono ?_); rintro e w1 ⟨rfl, h1⟩
        obtain ⟨c1, f1⟩ := bcell h1
        have H1 := Lib.hid h1; clear h1
        go_wp2_with fail
        (with_reducible refine (is_yes p _ (HM.out.below ((B1.out _).trans (H1.out.mono (by simp)))) HI.out).mono ?_); rintro e w2 ⟨rfl, h2⟩
        obtain ⟨c2, f2⟩ := bcell h2
        have z1 : w.heap.size < w1.heap.size := by have := H1.out.size; simp at this; omega
        have H2 := Lib.hid h2; clear h2
        go_wp2
        go_ret
        exact ⟨rfl, ((B1.out _).trans (H1.out.mono (by simp))).trans (H2.out.mono (by omega))⟩
  · have E : askI m p null = 2 := by simp [askI, hk]
    rw [E]
    clear E
    have hk1 : (p.k == 2) = false := by simpa using hk
    have hk2 : (p.k != 2) = true := by simpa using hk
    clear hk
    go_enter Try.func40, Try.ntmps40
    go_wp2_with fail
    (with_reducible refine (check_yes _ (HM.out.below (B1.out _)) HY.out).mono ?_); rintro e w1 ⟨rfl, h1⟩
    obtain ⟨c1, f1⟩ := bcell h1
    have H1 := Lib.hid h1; clear h1
    go_wp2
    go_ret
    exact ⟨rfl, (B1.out _).trans (H1.out.mono (by simp))⟩

theorem asked_is {m : List Blk} {v : Value} (p : Val) (null : Bool) (i : Int) (w : World) (hm : BsAt w v m) (h : askedI m p null = i) :
    Calls Try.prog 40 #[v, .agg #[.int .u8 p.k, .int .i64 p.n, .int .i64 p.b, .int .i64 p.o], .bool null] w fun e w' => e = .returned (.int .i64 i) ∧ Below w.heap.size w w' := by
  rw [← h]; exact asked_any p null w hm

theorem b2 {w w1 : World} {o o' : Obj} (h : Below ((w.alloc o).alloc o').heap.size ((w.alloc o).alloc o') w1) : Below w.heap.size w w1 :=
  (((Below.refl w.heap.size w).alloc (Nat.le_refl _) o).alloc (by simp) o').trans (h.mono (by simp; omega))

theorem load_bad {m : List Blk} {v : Value} (p : Val) (i : Int) (w : World) (hm : BsAt w v m) (h : askedI m p false = i) (hi : ¬ i = 0) :
    Calls Try.prog 19 #[v, .agg #[.int .u8 p.k, .int .i64 p.n, .int .i64 p.b, .int .i64 p.o]] w fun e w' => e = .returned (.tuple #[.agg #[.int .u8 0, .int .i64 0, .int .i64 0, .int .i64 0], .int .i64 i]) ∧ Below w.heap.size w w' := by
  have HM := Lib.hid hm; clear hm
  have HI := Lib.hid h; clear h
  have e1 : (i == 0) = false := by simpa using hi
  have e2 : (i != 0) = true := by simpa using hi
  clear hi
  go_enter Try.func19, Try.ntmps19
  go_wp2_with fail
  (with_reducible refine (asked_is p false i _ (HM.out.below (((Below.refl _ _).alloc (Nat.le_refl _) _).alloc (by simp) _)) HI.out).mono ?_); rintro e w1 ⟨rfl, h1⟩
  obtain ⟨c1, f1⟩ := bcell h1
  have H1 := Lib.hid h1; clear h1
  go_wp2
  exact bodyPost_ret (v := .tuple #[.agg #[.int .u8 0, .int .i64 0, .int .i64 0, .int .i64 0], .int .i64 i]) (by simp [results, Try.results19, go_sem, c1]) rfl ⟨rfl, ((((b2 H1.out).setCell (by simp) _).setCell (by simp) _).setCell (by simp) _).setCell (by simp) _⟩

theorem load_dead {m : List Blk} {v : Value} (p : Val) (w : World) (hm : BsAt w v m) (h : askedI m p false = 0) (ha : (blkAt m p).alive = false) :
    Calls Try.prog 19 #[v, .agg #[.int .u8 p.k, .int .i64 p.n, .int .i64 p.b, .int .i64 p.o]] w fun e w' => e = .returned (.tuple #[.agg #[.int .u8 0, .int .i64 0, .int .i64 0, .int .i64 0], .int .i64 142]) ∧ Below w.heap.size w w' := by
  have hm' := hm
  obtain ⟨A, c, rfl, hl, hq⟩ := hm'
  clear hq
  obtain ⟨hy, hk, his, hn⟩ := askedI_zero h
  have hb : ¬ p.b = 0 := by simpa using hn
  obtain ⟨hb0, hbl, ho0, b, hgb, heb, hol, hce⟩ := in_of hk hb his
  rw [heb] at ha
  obtain ⟨g, og, rfl, hg, q0, q1, q2, q3, hv, q4, h5⟩ := hm.get hgb
  have h5' := h5
  obtain ⟨Ai, ci, rfl, hl5, hx5⟩ := h5'
  clear hx5
  rw [ha] at q3
  obtain ⟨gi, oi, rfl, hgi, t0, t1, t2, t3⟩ := h5.get hce
  have HM := Lib.hid hm; clear hm
  have HI := Lib.hid h; clear h
  have HC := Lib.hid hce
  clear hy hk his hn hb hgb heb ha hce h5
  go_enter Try.func19, Try.ntmps19
  go_wp2_with fail
  (with_reducible refine (asked_is p false 0 _ (HM.out.below (((Below.refl _ _).alloc (Nat.le_refl _) _).alloc (by simp) _)) HI.out).mono ?_); rintro e w1 ⟨rfl, h1⟩
  have B1 := Lib.hid (b2 h1)
  have z1 : w.heap.size + 1 < w1.heap.size := by have := h1.size; simp at this; omega
  have z0 : w.heap.size < w1.heap.size := by omega
  have r0 := cell_below B1.out q0
  have r1 := cell_below B1.out q1
  have r2 := cell_below B1.out q2
  have r3 := cell_below B1.out q3
  have r4 := cell_below B1.out q4
  have u0 := cell_below B1.out t0
  have u1 := cell_below B1.out t1
  have u2 := cell_below B1.out t2
  have u3 := cell_below B1.out t3
  have zg : g < w1.heap.size := by omega
  have zgi : gi < w1.heap.size := by omega
  clear q0 q1 q2 q3 q4 t0 t1 t2 t3
  have x0 : w1.cell? ⟨w.heap.size, 0, none⟩ = some (.int .u8 p.k) := cell_below h1 (by simp)
  have x1 : w1.cell? ⟨w.heap.size, 1, none⟩ = some (.int .i64 p.n) := cell_below h1 (by simp)
  have x2 : w1.cell? ⟨w.heap.size, 2, none⟩ = some (.int .i64 p.b) := cell_below h1 (by simp)
  have x3 : w1.cell? ⟨w.heap.size, 3, none⟩ = some (.int .i64 p.o) := cell_below h1 (by simp)
  have y0 : w1.cell? ⟨w.heap.size + 1, 0, none⟩ = some (.int .u8 0) := cell_below h1 (by simp)
  have y1 : w1.cell? ⟨w.heap.size + 1, 1, none⟩ = some (.int .i64 0) := cell_below h1 (by simp)
  have y2 : w1.cell? ⟨w.heap.size + 1, 2, none⟩ = some (.int .i64 0) := cell_below h1 (by simp)
  have y3 : w1.cell? ⟨w.heap.size + 1, 3, none⟩ = some (.int .i64 0) := cell_below h1 (by simp)
  obtain ⟨_, f1⟩ := bcell h1
  clear h1
  go_wp2
  refine bodyPost_ret (v := .tuple #[.agg #[.int .u8 0, .int .i64 0, .int .i64 0, .int .i64 0], .int .i64 142]) (by simp [results, Try.results19, go_sem, *]) rfl ⟨rfl, ?_⟩
  repeat (first | exact B1.out | refine Below.setCell ?_ (by simp) _ | refine Below.alloc ?_ (by simp; omega) _)

theorem load_live {m : List Blk} {v : Value} (p : Val) (w : World) (hm : BsAt w v m) (h : askedI m p false = 0) (ha : (blkAt m p).alive = true) :
    Calls Try.prog 19 #[v, .agg #[.int .u8 p.k, .int .i64 p.n, .int .i64 p.b, .int .i64 p.o]] w fun e w' => e = .returned (.tuple #[.agg #[.int .u8 (cellAt m p).k, .int .i64 (cellAt m p).n, .int .i64 (cellAt m p).b, .int .i64 (cellAt m p).o], .int .i64 0]) ∧ Below w.heap.size w w' := by
  have hm' := hm
  obtain ⟨A, c, rfl, hl, hq⟩ := hm'
  clear hq
  obtain ⟨hy, hk, his, hn⟩ := askedI_zero h
  have hb : ¬ p.b = 0 := by simpa using hn
  obtain ⟨hb0, hbl, ho0, b, hgb, heb, hol, hce⟩ := in_of hk hb his
  rw [heb] at ha
  obtain ⟨g, og, rfl, hg, q0, q1, q2, q3, hv, q4, h5⟩ := hm.get hgb
  have h5' := h5
  obtain ⟨Ai, ci, rfl, hl5, hx5⟩ := h5'
  clear hx5
  rw [ha] at q3
  obtain ⟨gi, oi, rfl, hgi, t0, t1, t2, t3⟩ := h5.get hce
  have HM := Lib.hid hm; clear hm
  have HI := Lib.hid h; clear h
  have HC := Lib.hid hce
  clear hy hk his hn hb hgb heb ha hce h5
  go_enter Try.func19, Try.ntmps19
  go_wp2_with fail
  (with_reducible refine (asked_is p false 0 _ (HM.out.below (((Below.refl _ _).alloc (Nat.le_refl _) _).alloc (by simp) _)) HI.out).mono ?_); rintro e w1 ⟨rfl, h1⟩
  have B1 := Lib.hid (b2 h1)
  have z1 : w.heap.size + 1 < w1.heap.size := by have := h1.size; simp at this; omega
  have z0 : w.heap.size < w1.heap.size := by omega
  have r0 := cell_below B1.out q0
  have r1 := cell_below B1.out q1
  have r2 := cell_below B1.out q2
  have r3 := cell_below B1.out q3
  have r4 := cell_below B1.out q4
  have u0 := cell_below B1.out t0
  have u1 := cell_below B1.out t1
  have u2 := cell_below B1.out t2
  have u3 := cell_below B1.out t3
  have zg : g < w1.heap.size := by omega
  have zgi : gi < w1.heap.size := by omega
  clear q0 q1 q2 q3 q4 t0 t1 t2 t3
  have x0 : w1.cell? ⟨w.heap.size, 0, none⟩ = some (.int .u8 p.k) := cell_below h1 (by simp)
  have x1 : w1.cell? ⟨w.heap.size, 1, none⟩ = some (.int .i64 p.n) := cell_below h1 (by simp)
  have x2 : w1.cell? ⟨w.heap.size, 2, none⟩ = some (.int .i64 p.b) := cell_below h1 (by simp)
  have x3 : w1.cell? ⟨w.heap.size, 3, none⟩ = some (.int .i64 p.o) := cell_below h1 (by simp)
  have y0 : w1.cell? ⟨w.heap.size + 1, 0, none⟩ = some (.int .u8 0) := cell_below h1 (by simp)
  have y1 : w1.cell? ⟨w.heap.size + 1, 1, none⟩ = some (.int .i64 0) := cell_below h1 (by simp)
  have y2 : w1.cell? ⟨w.heap.size + 1, 2, none⟩ = some (.int .i64 0) := cell_below h1 (by simp)
  have y3 : w1.cell? ⟨w.heap.size + 1, 3, none⟩ = some (.int .i64 0) := cell_below h1 (by simp)
  obtain ⟨_, f1⟩ := bcell h1
  clear h1
  go_wp2
  refine bodyPost_ret (v := .tuple #[.agg #[.int .u8 (cellAt m p).k, .int .i64 (cellAt m p).n, .int .i64 (cellAt m p).b, .int .i64 (cellAt m p).o], .int .i64 0]) (by simp [results, Try.results19, go_sem, *]) rfl ⟨rfl, ?_⟩
  repeat (first | exact B1.out | refine Below.setCell ?_ (by simp) _ | refine Below.alloc ?_ (by simp; omega) _)

theorem load_any {m : List Blk} {v : Value} (p : Val) (w : World) (hm : BsAt w v m) :
    Calls Try.prog 19 #[v, .agg #[.int .u8 p.k, .int .i64 p.n, .int .i64 p.b, .int .i64 p.o]] w fun e w' => e = .returned (.tuple #[.agg #[.int .u8 (loadV m p).k, .int .i64 (loadV m p).n, .int .i64 (loadV m p).b, .int .i64 (loadV m p).o], .int .i64 (loadI m p)]) ∧ Below w.heap.size w w' := by
  unfold loadV loadI
  by_cases h : askedI m p false = 0
  · cases ha : (blkAt m p).alive
    · simp only [h, Bool.false_eq_true, and_false, if_false, if_true]
      exact load_dead p w hm h ha
    · simp only [h, and_self, if_true]
      exact load_live p w hm h ha
  · simp only [h, false_and, if_false]
    exact load_bad p _ w hm rfl h

end Go.Proofs.Ytmelamlngjflkaa

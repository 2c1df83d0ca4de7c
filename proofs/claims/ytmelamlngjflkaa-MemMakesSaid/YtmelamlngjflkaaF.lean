/- The contracts of Depth and Holds; by plain functions. -/
import Derived.Test.YtmelamlngjflkaaRows
import Derived.WalkKit
import Derived.ProofKit
import Derived.OpenShut
import Derived.Below
import Derived.Outline
import Derived.LoopTactic
import Derived.Test.YtmelamlngjflkaaRep
import Derived.Test.YtmelamlngjflkaaU
import Derived.Lib.Hide
import Derived.Test.YtmelamlngjflkaaD
namespace Go.Proofs.Ytmelamlngjflkaa
open Go.ChangeShapes Go.WideShapes Go.ChangeAt Go.RowKit
set_option linter.unusedVariables false

def depthI (m : List Blk) (p : Val) : Int := if mayM m then (if isB m p then 0 else 2) else 8
def depthV (m : List Blk) (p : Val) : Int := if mayM m ∧ isB m p then deepB m p else 0
theorem deep_yes {m : List Blk} {v : Value} (p : Val) (w : World) (hm : BsAt w v m) (h : isB m p = true) :
    Calls Try.prog 39 #[v, .agg #[.int .u8 p.k, .int .i64 p.n, .int .i64 p.b, .int .i64 p.o]] w fun e w' => e = .returned (.int .i64 (deepB m p)) ∧ Below w.heap.size w w' := deep_any p w hm h

theorem depth_any {m : List Blk} {v : Value} (p : Val) (w : World) (hm : BsAt w v m) :
    Calls Try.prog 18 #[v, .agg #[.int .u8 p.k, .int .i64 p.n, .int .i64 p.b, .int .i64 p.o]] w fun e w' => e = .returned (.tuple #[.int .i64 (depthV m p), .int .i64 (depthI m p)]) ∧ Below w.heap.size w w' := by
  have HM := Lib.hid hm; clear hm
  have B1 := Lib.hid (fun (o : Obj) => (Below.refl w.heap.size w).alloc (Nat.le_refl _) o)
  unfold depthV depthI
  cases hmay : mayM m
  · have HY := Lib.hid hmay; clear hmay
    simp only [Bool.false_eq_true, false_and, if_false]
    go_enter Try.func18, Try.ntmps18
    go_wp2_with fail
    (with_reducible refine (check_no _ (HM.out.below (B1.out _)) HY.out).mono ?_); rintro e w1 ⟨rfl, h1⟩
    go_wp2
    go_ret2
    exact ⟨rfl, (B1.out _).trans (h1.mono (by simp))⟩
  · have HY := Lib.hid hmay; clear hmay
    cases hi : isB m p
    · have HI := Lib.hid hi; clear hi
      simp only [Bool.false_eq_true, and_false, if_false, if_true]
      go_enter Try.func18, Try.ntmps18
      go_wp2_with fail
      (with_reducible refine (check_yes _ (HM.out.below (B1.out _)) HY.out).mono ?_); rintro e w1 ⟨rfl, h1⟩
      obtain ⟨c1, f1⟩ := bcell h1
      have H1 := Lib.hid h1; clear h1
      go_wp2_with fail
      (with_reducible refine (is_not p _ (HM.out.below ((B1.out _).trans (H1.out.mono (by simp)))) HI.out).mono ?_); rintro e w2 ⟨rfl, h2⟩
      go_wp2
      go_ret2
      exact ⟨rfl, ((B1.out _).trans (H1.out.mono (by simp))).trans (h2.mono (by have := H1.out.size; simp at this; omega))⟩
    · have HI := Lib.hid hi; clear hi
      simp only [and_self, if_true]
      go_enter Try.func18, Try.ntmps18
      go_wp2_with fail
      (with_reducible refine (check_yes _ (HM.out.below (B1.out _)) HY.out).mono ?_); rintro e w1 ⟨rfl, h1⟩
      obtain ⟨c1, f1⟩ := bcell h1
      have H1 := Lib.hid ((B1.out _).trans (h1.mono (by simp)))
      have z1 : w.heap.size < w1.heap.size := by have := h1.size; simp at this; omega
      clear h1
      go_wp2_with fail
      (with_reducible refine (is_yes p _ (HM.out.below H1.out) HI.out).mono ?_); rintro e w2 ⟨rfl, h2⟩
      obtain ⟨c2, f2⟩ := bcell h2
      have H2 := Lib.hid (H1.out.trans (h2.mono (by omega)))
      have z2 : w.heap.size < w2.heap.size := by have := h2.size; omega
      clear h2
      go_wp2_with fail
      (with_reducible refine (deep_yes p _ (HM.out.below H2.out) HI.out).mono ?_); rintro e w3 ⟨rfl, h3⟩
      go_wp2
      go_ret2
      exact ⟨rfl, H2.out.trans (h3.mono (by omega))⟩

def badB (m : List Blk) (b : Blk) : Bool := b.alive && b.cells.any fun v => decide (b.dep < deepB m v)
def lifeB (m : List Blk) : Bool := m.all fun b => !badB m b
theorem lifeB_no {m : List Blk} {k : Nat} (hk : k < m.length) (h : badB m m[k] = true) : lifeB m = false := by
  unfold lifeB
  rw [List.all_eq_false]
  exact ⟨m[k], List.getElem_mem hk, by simp [h]⟩
theorem lifeB_yes {m : List Blk} (h : ∀ b ∈ m, badB m b = false) : lifeB m = true := by
  unfold lifeB
  rw [List.all_eq_true]
  intro b hb
  simp [h b hb]
theorem take_blk {m : List Blk} {p : Blk → Bool} {k : Nat} (hk : k < m.length) (h : ∀ x ∈ m.take k, p x = false) (hp : p m[k] = false) : ∀ x ∈ m.take (k + 1), p x = false := by
  intro x hx
  rw [List.take_succ_eq_append_getElem hk, List.mem_append] at hx
  rcases hx with hx | hx
  · exact h x hx
  · simp at hx; subst hx; exact hp
theorem cells_is {m : List Blk} (h : mayM m = true) {b : Blk} (hb : b ∈ m) {x : Val} (hx : x ∈ b.cells) : isB m x = true := by
  simp only [mayM, Bool.and_eq_true, List.all_eq_true] at h
  have := h.2 b hb
  simp only [blkB, Bool.and_eq_true, List.all_eq_true] at this
  exact this.2 x hx

theorem holds_no {m : List Blk} {v : Value} (w : World) (hm : BsAt w v m) (h : mayM m = false) :
    Calls Try.prog 12 #[v] w fun e w' => e = .returned (.tuple #[.bool false, .int .i64 8]) ∧ Below w.heap.size w w' := by
  have HM := Lib.hid hm; clear hm
  have B1 := Lib.hid (fun (o : Obj) => (Below.refl w.heap.size w).alloc (Nat.le_refl _) o)
  have HY := Lib.hid h; clear h
  have hm' := HM.out
  obtain ⟨A, c, rfl, hl, hq⟩ := hm'
  clear hq
  go_enter Try.func12, Try.ntmps12
  go_wp2_with fail
  (with_reducible refine (check_no _ (HM.out.below (B1.out _)) HY.out).mono ?_); rintro e w1 ⟨rfl, h1⟩
  go_wp2
  go_ret2
  exact ⟨rfl, (B1.out _).trans (h1.mono (by simp))⟩

set_option maxHeartbeats 1000000 in
theorem holds_yes {m : List Blk} {v : Value} (w : World) (hm : BsAt w v m) (h : mayM m = true) :
    Calls Try.prog 12 #[v] w fun e w' => e = .returned (.tuple #[.bool (lifeB m), .int .i64 0]) ∧ Below w.heap.size w w' := by
  have HM := Lib.hid hm; clear hm
  have B1 := Lib.hid (fun (o : Obj) => (Below.refl w.heap.size w).alloc (Nat.le_refl _) o)
  have HY := Lib.hid h; clear h
  have hm' := HM.out
  obtain ⟨A, c, rfl, hl, hq⟩ := hm'
  clear hq
  go_enter Try.func12, Try.ntmps12
  go_wp2_with fail
  (with_reducible refine (check_yes _ (HM.out.below (B1.out _)) HY.out).mono ?_); rintro e w1 ⟨rfl, h1⟩
  obtain ⟨c1, f1⟩ := bcell h1
  have H1 := Lib.hid ((B1.out _).trans (h1.mono (by simp)))
  have z1 : w.heap.size < w1.heap.size := by have := h1.size; simp at this; omega
  have hp : w1.cell? ⟨w.heap.size, 0, none⟩ = some (.slice A m.length c) := cell_below h1 (by simp)
  clear h1
  go_wp2
  have P0 := Lib.hid hp
  have HM1 := Lib.hid (HM.out.below H1.out)
  clear hp c1 f1
  go_loopw [6, 14] (fun _ i wr => ∃ k : Nat, k ≤ m.length ∧ i = .int .i64 k ∧ Below w1.heap.size w1 wr ∧ Hid (∀ b ∈ m.take k, badB m b = false)) (fun _ i _ => m.length - (intOf i).toNat)
  case atStart => exact ⟨0, Nat.zero_le _, rfl, Below.refl _ _, by unfold Hid; simp⟩
  case round =>
    obtain ⟨k, hk, rfl, hb, N⟩ := hrel
    have HB := Lib.hid hb; clear hb
    by_cases hlt : k < m.length
    · obtain ⟨g, og, rfl, hg, q0, q1, q2, q3, hv, q4, h5⟩ := HM1.out.get (List.getElem?_eq_getElem hlt)
      obtain ⟨Ai, ci, rfl, hl5, hx5⟩ := h5
      have H5 : Hid (VsAt w1 (.slice Ai m[k].cells.length ci) m[k].cells) := ⟨Ai, ci, rfl, hl5, hx5⟩
      clear hx5
      have r0 := cell_below HB.out q0
      have r1 := cell_below HB.out q1
      have r2 := cell_below HB.out q2
      have r3 := cell_below HB.out q3
      have r4 := cell_below HB.out q4
      have hgr : g < wr.heap.size := Nat.lt_of_lt_of_le hg HB.out.size
      clear q0 q1 q2 q3 q4
      cases ha : m[k].alive
      · have EB : Hid (badB m m[k] = false) := by unfold Hid badB; rw [ha, Bool.false_and]
        rw [ha] at r3
        clear ha
        go_wp2
        go_roundw
        case rel => exact ⟨k + 1, by omega, by go_num, HB.out.alloc HB.out.size _, take_blk hlt N.out EB.out⟩
        case measure => simp [intOf]; omega
      · have EB : Hid (badB m m[k] = m[k].cells.any fun v => decide (m[k].dep < deepB m v)) := by unfold Hid badB; rw [ha, Bool.true_and]
        rw [ha] at r3
        clear ha
        go_wp2_with fail
        refine (contains_hld (fun x => decide (m[k].dep < deepB m x)) _ _ _ ((H5.out.below HB.out).below ((Below.refl _ _).alloc (Nat.le_refl _) _)) ?hcl).mono ?_
        case hcl =>
          intro W' x hx hW'
          have hb1 : Below w1.heap.size w1 W' := (HB.out.alloc HB.out.size _).trans (hW'.mono (Nat.le_trans HB.out.size (by simp)))
          have hz := HB.out.size
          have hz2 := hW'.size
          simp only [World.size_alloc] at hz2
          refine hld1 x w.heap.size wr.heap.size _ W' (by omega) (cell_below hb1 P0.out) (by omega) ?_ (HM1.out.below hb1) (cells_is HY.out (List.getElem_mem hlt) hx)
          exact cell_below hW' (by simp)
        rintro e w2 ⟨rfl, h1⟩
        have H2 := Lib.hid ((HB.out.alloc HB.out.size _).trans (h1.mono (Nat.le_trans HB.out.size (by simp))))
        clear h1 r0 r1 r2 r3 r4
        cases hany : (m[k].cells.any fun v => decide (m[k].dep < deepB m v))
        · have HA := Lib.hid hany; clear hany
          go_wp2
          go_roundw
          case rel => exact ⟨k + 1, by omega, by go_num, H2.out, take_blk hlt N.out (EB.out.trans HA.out)⟩
          case measure => simp [intOf]; omega
        · have HA := Lib.hid hany; clear hany
          go_wp2
          go_ret2
          exact ⟨by rw [lifeB_no hlt (EB.out.trans HA.out)]; rfl, H1.out.trans (H2.out.mono H1.out.size)⟩
    · have : k = m.length := by omega
      subst this
      go_wp2
      go_ret2
      refine ⟨?_, H1.out.trans (HB.out.mono H1.out.size)⟩
      rw [List.take_length] at N
      rw [lifeB_yes N.out]
      rfl
def holdsI (m : List Blk) : Int := if mayM m then 0 else 8
def holdsB (m : List Blk) : Bool := mayM m && lifeB m
theorem holds_any {m : List Blk} {v : Value} (w : World) (hm : BsAt w v m) :
    Calls Try.prog 12 #[v] w fun e w' => e = .returned (.tuple #[.bool (holdsB m), .int .i64 (holdsI m)]) ∧ Below w.heap.size w w' := by
  unfold holdsB holdsI
  cases h : mayM m
  · exact holds_no w hm h
  · simpa using holds_yes w hm h

end Go.Proofs.Ytmelamlngjflkaa

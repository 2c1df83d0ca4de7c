/- The contract of the document's New. -/
import Derived.Test.YtmelamlngjflkaaRows
import Derived.WalkKit
import Derived.ProofKit
import Derived.OpenShut
import Derived.Below
import Derived.Outline
import Derived.LoopTactic
import Derived.Test.YtmelamlngjflkaaRep
import Derived.Test.YtmelamlngjflkaaU
import Derived.Lib.Hide
import Derived.WalkSpells
import Derived.WalkLawsBesides
import Derived.RegionTactic
import Derived.BigRegion
import Derived.Deep.RegionLaw
import Derived.Deep.RegionWith
import Derived.Test.YtmelamlngjflkaaP9
namespace Go.Proofs.Ytmelamlngjflkaa
open Go.ChangeShapes Go.WideShapes Go.ChangeAt Go.RowKit
set_option linter.unusedVariables false

set_option maxHeartbeats 4000000 in
theorem rnew_loop {m : List Blk} {v lv : Value} {l : List Int} (site ty d : Int) (w : World) (hm : BsAt w v m) (hl : KsAt w lv l) (hlx : l.length ≤ 40) {r : List Blk} {p : Val} {i : Int} (hr : newR m site ty d l = r) (hp : newV m site ty d l = p) (hi : newI m site ty d l = i) : Calls Try.prog 24 #[v, .int .i64 site, .int .i64 ty, .int .i64 d, lv] w (NewP r p i w) := by
  have HR := Lib.hid hr; clear hr
  have HP := Lib.hid hp; clear hp
  have HE := Lib.hid hi; clear hi
  have HM := Lib.hid hm; clear hm
  have hl' := hl
  obtain ⟨A, c, rfl, hlm, _, _⟩ := hl'
  have HL := Lib.hid hl; clear hl
  obtain ⟨Am, cm, rfl, hml, hmq⟩ := HM.out
  clear hmq
  cases hmay : mayM m
  · have HY := Lib.hid hmay
    have e0 : newI m site ty d l = 8 := by simp [newI, hmay]
    obtain ⟨rfl, rfl, rfl⟩ := new_is HR.out HP.out HE.out e0 (by decide)
    clear e0 hmay
    go_enter Try.func24, Try.ntmps24
    go_wp2_with fail
    (with_reducible refine (rmay_at (b := false) _ (HM.out.below ((Below.refl _ _).alloc (Nat.le_refl _) _)) HY.out).mono ?_); rintro e w1 ⟨rfl, h1⟩
    obtain ⟨c1, f1⟩ := bcell h1
    have H1 : Hid (Below w.heap.size w w1) := ((Below.refl _ _).alloc (Nat.le_refl _) _).trans (h1.mono (by simp))
    clear h1
    go_wp2
    refine bodyPost_ret (v := .tuple #[.slice none 0 0, .agg #[.int .u8 0, .int .i64 0, .int .i64 0, .int .i64 0], .int .i64 8]) (by simp [results, Try.results24, go_sem, *]) rfl ⟨_, rfl, Lay.no _ _, ?_⟩
    repeat (first | exact H1.out | (with_reducible refine Below.drew ?_) | refine Below.setCell ?_ (by simp) _)
  have HY := Lib.hid hmay
  have HML := Lib.hid (mayM_len hmay)
  clear hmay
  go_enter Try.func24, Try.ntmps24
  go_wp2_with fail
  (with_reducible refine (rmay_at (b := true) _ (HM.out.below ((Below.refl _ _).alloc (Nat.le_refl _) _)) HY.out).mono ?_); rintro e w1 ⟨rfl, h1⟩
  have B1 : Hid (Below w.heap.size w w1) := ((Below.refl _ _).alloc (Nat.le_refl _) _).trans (h1.mono (by simp))
  have z1 : w.heap.size < w1.heap.size := by have := h1.size; simp at this; omega
  have y0 : w1.cell? ⟨w.heap.size, 0, none⟩ = some (.int .u8 0) := cell_below h1 (by simp)
  have y1 : w1.cell? ⟨w.heap.size, 1, none⟩ = some (.int .i64 0) := cell_below h1 (by simp)
  have y2 : w1.cell? ⟨w.heap.size, 2, none⟩ = some (.int .i64 0) := cell_below h1 (by simp)
  have y3 : w1.cell? ⟨w.heap.size, 3, none⟩ = some (.int .i64 0) := cell_below h1 (by simp)
  have f0 : ∀ j, w1.frozen? ⟨w.heap.size, j, none⟩ = false := fun j => by have := (bcell h1).2 w.heap.size j (by simp); rw [this]; simp
  clear h1
  go_wp2_with fail
  (with_reducible refine (firsts_any _ (HL.out.below B1.out) hlx).mono ?_); rintro e w2 ⟨v2, rfl, hrow, h2⟩
  have B2 : Hid (Below w.heap.size w w2) := B1.out.trans (h2.mono (Nat.le_of_lt z1) |>.mono (Nat.le_refl _))
  have z2 : w.heap.size < w2.heap.size := Nat.lt_of_lt_of_le z1 h2.size
  have u0 := cell_below h2 y0
  have u1 := cell_below h2 y1
  have u2 := cell_below h2 y2
  have u3 := cell_below h2 y3
  have g0 : ∀ j, w2.frozen? ⟨w.heap.size, j, none⟩ = false := fun j => (h2.frozen (p := ⟨w.heap.size, j, none⟩) z1).trans (f0 j)
  have HROW := Lib.hid hrow
  have Z12 := Lib.hid h2.size
  clear h2 hrow y0 y1 y2 y3 f0
  cases hks : kindsB l
  · have HKS := Lib.hid hks; clear hks
    have e0 : newI m site ty d l = 2 := by simp [newI, HY.out, HKS.out]
    obtain ⟨rfl, rfl, rfl⟩ := new_is HR.out HP.out HE.out e0 (by decide)
    clear e0
    go_wp2_with fail
    all_goals
      go_wp2
      refine bodyPost_ret (v := .tuple #[.slice none 0 0, .agg #[.int .u8 0, .int .i64 0, .int .i64 0, .int .i64 0], .int .i64 2]) (by simp [results, Try.results24, go_sem, *]) rfl ⟨_, rfl, Lay.no _ _, ?_⟩
      repeat (first | exact B2.out | (with_reducible refine Below.drew ?_) | refine Below.setCell ?_ (by simp) _ | refine Below.alloc ?_ (by simp; omega) _)
  have HKS := Lib.hid hks; clear hks
  obtain ⟨Ah, ch, rfl⟩ := own_slice (HROW.out HKS.out)
  by_cases t0 : site < 0
  · have e0 : newI m site ty d l = 2 := by unfold newI; rw [if_pos HY.out, if_pos (.inr (by omega))]
    obtain ⟨rfl, rfl, rfl⟩ := new_is HR.out HP.out HE.out e0 (by decide)
    clear e0
    go_wp2_with fail
    all_goals
      go_wp2
      refine bodyPost_ret (v := .tuple #[.slice none 0 0, .agg #[.int .u8 0, .int .i64 0, .int .i64 0, .int .i64 0], .int .i64 2]) (by simp [results, Try.results24, go_sem, *]) rfl ⟨_, rfl, Lay.no _ _, ?_⟩
      repeat (first | exact B2.out | (with_reducible refine Below.drew ?_) | refine Below.setCell ?_ (by simp) _ | refine Below.alloc ?_ (by simp; omega) _)
  by_cases t1 : ty < 0
  · have e0 : newI m site ty d l = 2 := by unfold newI; rw [if_pos HY.out, if_pos (.inr (by omega))]
    obtain ⟨rfl, rfl, rfl⟩ := new_is HR.out HP.out HE.out e0 (by decide)
    clear e0
    go_wp2_with fail
    all_goals
      go_wp2
      refine bodyPost_ret (v := .tuple #[.slice none 0 0, .agg #[.int .u8 0, .int .i64 0, .int .i64 0, .int .i64 0], .int .i64 2]) (by simp [results, Try.results24, go_sem, *]) rfl ⟨_, rfl, Lay.no _ _, ?_⟩
      repeat (first | exact B2.out | (with_reducible refine Below.drew ?_) | refine Below.setCell ?_ (by simp) _ | refine Below.alloc ?_ (by simp; omega) _)
  by_cases t2 : d < 0
  · have e0 : newI m site ty d l = 2 := by unfold newI; rw [if_pos HY.out, if_pos (.inr (by omega))]
    obtain ⟨rfl, rfl, rfl⟩ := new_is HR.out HP.out HE.out e0 (by decide)
    clear e0
    go_wp2_with fail
    all_goals
      go_wp2
      refine bodyPost_ret (v := .tuple #[.slice none 0 0, .agg #[.int .u8 0, .int .i64 0, .int .i64 0, .int .i64 0], .int .i64 2]) (by simp [results, Try.results24, go_sem, *]) rfl ⟨_, rfl, Lay.no _ _, ?_⟩
      repeat (first | exact B2.out | (with_reducible refine Below.drew ?_) | refine Below.setCell ?_ (by simp) _ | refine Below.alloc ?_ (by simp; omega) _)
  by_cases t3 : l.length < 1
  · have e0 : newI m site ty d l = 2 := by unfold newI; rw [if_pos HY.out, if_pos (.inr (by omega))]
    obtain ⟨rfl, rfl, rfl⟩ := new_is HR.out HP.out HE.out e0 (by decide)
    clear e0
    go_wp2_with fail
    all_goals
      go_wp2
      refine bodyPost_ret (v := .tuple #[.slice none 0 0, .agg #[.int .u8 0, .int .i64 0, .int .i64 0, .int .i64 0], .int .i64 2]) (by simp [results, Try.results24, go_sem, *]) rfl ⟨_, rfl, Lay.no _ _, ?_⟩
      repeat (first | exact B2.out | (with_reducible refine Below.drew ?_) | refine Below.setCell ?_ (by simp) _ | refine Below.alloc ?_ (by simp; omega) _)
  by_cases t4 : 32 < l.length
  · have e0 : newI m site ty d l = 2 := by unfold newI; rw [if_pos HY.out, if_pos (.inr (by omega))]
    obtain ⟨rfl, rfl, rfl⟩ := new_is HR.out HP.out HE.out e0 (by decide)
    clear e0
    go_wp2_with fail
    all_goals
      go_wp2
      refine bodyPost_ret (v := .tuple #[.slice none 0 0, .agg #[.int .u8 0, .int .i64 0, .int .i64 0, .int .i64 0], .int .i64 2]) (by simp [results, Try.results24, go_sem, *]) rfl ⟨_, rfl, Lay.no _ _, ?_⟩
      repeat (first | exact B2.out | (with_reducible refine Below.drew ?_) | refine Below.setCell ?_ (by simp) _ | refine Below.alloc ?_ (by simp; omega) _)
  have HOK : Hid (¬ (kindsB l = false ∨ site < 0 ∨ ty < 0 ∨ d < 0 ∨ l.length < 1 ∨ 32 < l.length)) := by
    rintro (h | h)
    · rw [HKS.out] at h
      cases h
    · omega
  by_cases hbig : 4096 ≤ m.length
  · have hlen : m.length = 4096 := by have := HML.out.1; omega
    have d5 : ((m.length : Int) == 4096) = true := by simp; omega
    have e0 : newI m site ty d l = 9 := by unfold newI; rw [if_pos HY.out, if_neg HOK.out, if_pos hbig]
    obtain ⟨rfl, rfl, rfl⟩ := new_is HR.out HP.out HE.out e0 (by decide)
    clear e0 hlen hbig
    go_wp2_with fail
    all_goals
      go_wp2
      refine bodyPost_ret (v := .tuple #[.slice none 0 0, .agg #[.int .u8 0, .int .i64 0, .int .i64 0, .int .i64 0], .int .i64 9]) (by simp [results, Try.results24, go_sem, *]) rfl ⟨_, rfl, Lay.no _ _, ?_⟩
      repeat (first | exact B2.out | (with_reducible refine Below.drew ?_) | refine Below.setCell ?_ (by simp) _ | refine Below.alloc ?_ (by simp; omega) _)
  have e0 : newI m site ty d l = 0 := by unfold newI; rw [if_pos HY.out, if_neg HOK.out, if_neg hbig]
  obtain ⟨rfl, rfl, rfl⟩ := new_is0 HR.out HP.out HE.out e0
  have d5 : ((m.length : Int) == 4096) = false := by simp; omega
  have HB : Hid (m.length < 4096) := by unfold Hid; omega
  have HN : Hid (w2.ownsRow w1.heap.size 24 4 (.slice Ah (newB site ty d l).cells.length ch) (newB site ty d l).cells.length ((newB site ty d l).cells.flatMap valCells)) := by
    have := HROW.out HKS.out
    unfold rowOf at this
    rw [List.take_length] at this
    simpa [newB, Hid] using this
  have HAH : Hid ((newB site ty d l).cells.length = l.length) := by simp [newB, Hid]
  clear e0
  go_wp2_with fail
  have HC : Calls Try.prog 46 #[.slice Am m.length cm, .agg #[.int .i64 site, .int .i64 ty, .int .i64 d, .bool true, .slice Ah l.length ch]] w2 (MadeV w1.heap.size m (newB site ty d l) w2) := by
    have := made_any (b := newB site ty d l) (Ah := Ah) (ch := ch) (b0 := w1.heap.size) w2 (HM.out.below B2.out) HB.out HML.out.2 HN.out Z12.out
    rw [HAH.out] at this
    exact this
  (with_reducible refine HC.mono ?_); rintro e w5 ⟨v5, rfl, lay, h5⟩
  have LY := Lib.hid (lay.lower (base' := w.heap.size + 1) z1)
  have B5 := Lib.hid (B2.out.trans (h5.mono B2.out.size))
  have z5 : w.heap.size < w5.heap.size := Nat.lt_of_lt_of_le z2 h5.size
  replace u0 := cell_below h5 u0
  replace u1 := cell_below h5 u1
  replace u2 := cell_below h5 u2
  replace u3 := cell_below h5 u3
  have g5 : ∀ j, w5.frozen? ⟨w.heap.size, j, none⟩ = false := fun j => (h5.frozen (p := ⟨w.heap.size, j, none⟩) z2).trans (g0 j)
  clear lay h5 g0 HC
  go_wp2_with fail
  go_region
  all_goals
    go_wp2
    refine bodyPost_ret (v := .tuple #[v5, .agg #[.int .u8 2, .int .i64 0, .int .i64 (m.length + 1 : Nat), .int .i64 0], .int .i64 0]) (by simp [results, Try.results24, go_sem, *]) rfl ⟨v5, by simp, ?_, ?_⟩
    · refine Lay.lower ?_ (Nat.le_succ _)
      repeat (first | (with_reducible refine Lay.under ?_ (Nat.lt_succ_self _) _) | (with_reducible refine Lay.below ?_ (Below.drew (Below.refl _ _))) | (with_reducible refine Lay.below ?_ ((Below.refl _ _).alloc (Nat.le_refl _) _)))
      exact LY.out
    · repeat (first | exact B5.out | (with_reducible refine Below.drew ?_) | refine Below.setCell ?_ (by simp) _ | refine Below.alloc ?_ (by simp; omega) _)

theorem rnew_any {m : List Blk} {v lv : Value} {l : List Int} (site ty d : Int) (w : World) (hm : BsAt w v m) (hl : KsAt w lv l) (hlx : l.length ≤ 40) : Calls Try.prog 24 #[v, .int .i64 site, .int .i64 ty, .int .i64 d, lv] w (NewP (newR m site ty d l) (newV m site ty d l) (newI m site ty d l) w) :=
  rnew_loop site ty d w hm hl hlx rfl rfl rfl

end Go.Proofs.Ytmelamlngjflkaa

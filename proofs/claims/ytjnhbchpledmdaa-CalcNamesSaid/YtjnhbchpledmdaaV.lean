/- The contracts of calc's and of the document's own checks of values (Check, May, First, Fits): by one plain Bool of what a value is. -/
import Derived.Test.YtjnhbchpledmdaaRows
import Derived.WalkKit
import Derived.ProofKit
import Derived.OpenShut
import Derived.Below
import Derived.Outline
namespace Go.Proofs.Ytjnhbchpledmdaa
open Go.ChangeShapes Go.WideShapes Go.ChangeAt Go.RowKit
set_option linter.unusedVariables false

def mayB (k n b o : Int) : Bool := decide (k = 1 ∧ b = 0 ∧ o = 0 ∨ k = 2 ∧ n = 0 ∧ (b = 0 ∧ o = 0 ∨ 0 < b ∧ 0 ≤ o) ∨ k = 3 ∧ b = 0 ∧ o = 0 ∧ 0 ≤ n ∧ n ≤ 8)
theorem mayB_true {k n b o : Int} : mayB k n b o = true ↔ (k = 1 ∧ b = 0 ∧ o = 0 ∨ k = 2 ∧ n = 0 ∧ (b = 0 ∧ o = 0 ∨ 0 < b ∧ 0 ≤ o) ∨ k = 3 ∧ b = 0 ∧ o = 0 ∧ 0 ≤ n ∧ n ≤ 8) := by simp [mayB]
theorem mayB_false {k n b o : Int} : mayB k n b o = false ↔ ¬ (k = 1 ∧ b = 0 ∧ o = 0 ∨ k = 2 ∧ n = 0 ∧ (b = 0 ∧ o = 0 ∨ 0 < b ∧ 0 ≤ o) ∨ k = 3 ∧ b = 0 ∧ o = 0 ∧ 0 ≤ n ∧ n ≤ 8) := by simp [mayB]
theorem ret_bool {a b : Bool} (h : a = b) : Ending.returned (.bool a) = .returned (.bool b) := by rw [h]

theorem may_true (k n b o : Int) (h : Hid (mayB k n b o = true)) (w : World) :
    Calls Try.prog 19 #[.agg #[.int .u8 k, .int .i64 n, .int .i64 b, .int .i64 o]] w fun e w' => e = .returned (.bool true) ∧ Below w.heap.size w w' := by
  go_enter Try.func19, Try.ntmps19
  go_wp2
  all_goals
    go_ret
    refine ⟨ret_bool ?_, (Below.refl _ _).alloc (Nat.le_refl _) _⟩
    have hm := mayB_true.1 h.out
    clear h
    first
      | rfl
      | (exfalso; omega)
      | (simp_all; done)
      | (simp_all; omega)

theorem check_true (k n b o : Int) (h : Hid (mayB k n b o = true)) (w : World) :
    Calls Try.prog 11 #[.agg #[.int .u8 k, .int .i64 n, .int .i64 b, .int .i64 o]] w fun e w' => e = .returned (.int .i64 0) ∧ Below w.heap.size w w' := by
  go_enter Try.func11, Try.ntmps11
  go_wp2
  all_goals
    go_ret
    refine ⟨?_, (Below.refl _ _).alloc (Nat.le_refl _) _⟩
    have hm := mayB_true.1 h.out
    clear h
    first
      | rfl
      | (exfalso; omega)
      | (simp_all; done)
      | (simp_all; omega)

theorem rcheck_true (k n b o : Int) (h : Hid (mayB k n b o = true)) (w : World) :
    Calls Try.prog 12 #[.agg #[.int .u8 k, .int .i64 n, .int .i64 b, .int .i64 o]] w fun e w' => e = .returned (.int .i64 0) ∧ Below w.heap.size w w' := by
  go_enter Try.func12, Try.ntmps12
  go_wp2_with fail
  (with_reducible refine (may_true _ _ _ _ h _).mono ?_); rintro e w1 ⟨rfl, h1⟩
  go_wp2
  go_ret
  exact ⟨rfl, ((Below.refl _ _).alloc (Nat.le_refl _) _).trans (h1.mono (by simp))⟩

theorem may_false (k n b o : Int) (h : Hid (mayB k n b o = false)) (w : World) :
    Calls Try.prog 19 #[.agg #[.int .u8 k, .int .i64 n, .int .i64 b, .int .i64 o]] w fun e w' => e = .returned (.bool false) ∧ Below w.heap.size w w' := by
  go_enter Try.func19, Try.ntmps19
  go_wp2
  all_goals
    go_ret
    refine ⟨ret_bool ?_, (Below.refl _ _).alloc (Nat.le_refl _) _⟩
    have hm := mayB_false.1 h.out
    clear h
    first
      | rfl
      | (exfalso; omega)
      | (simp_all; done)
      | (simp_all; omega)

theorem check_false (k n b o : Int) (h : Hid (mayB k n b o = false)) (w : World) :
    Calls Try.prog 11 #[.agg #[.int .u8 k, .int .i64 n, .int .i64 b, .int .i64 o]] w fun e w' => e = .returned (.int .i64 8) ∧ Below w.heap.size w w' := by
  go_enter Try.func11, Try.ntmps11
  go_wp2
  all_goals
    go_ret
    refine ⟨?_, (Below.refl _ _).alloc (Nat.le_refl _) _⟩
    have hm := mayB_false.1 h.out
    clear h
    first
      | rfl
      | (exfalso; omega)
      | (simp_all; done)
      | (simp_all; omega)

theorem rcheck_false (k n b o : Int) (h : Hid (mayB k n b o = false)) (w : World) :
    Calls Try.prog 12 #[.agg #[.int .u8 k, .int .i64 n, .int .i64 b, .int .i64 o]] w fun e w' => e = .returned (.int .i64 8) ∧ Below w.heap.size w w' := by
  go_enter Try.func12, Try.ntmps12
  go_wp2_with fail
  (with_reducible refine (may_false _ _ _ _ h _).mono ?_); rintro e w1 ⟨rfl, h1⟩
  go_wp2
  go_ret
  exact ⟨rfl, ((Below.refl _ _).alloc (Nat.le_refl _) _).trans (h1.mono (by simp))⟩

def errB (m : Bool) : Int := if m then 0 else 8
theorem may_any (k n b o : Int) (w : World) : Calls Try.prog 19 #[.agg #[.int .u8 k, .int .i64 n, .int .i64 b, .int .i64 o]] w fun e w' => e = .returned (.bool (mayB k n b o)) ∧ Below w.heap.size w w' := by
  cases h : mayB k n b o
  · exact may_false k n b o h w
  · exact may_true k n b o h w
theorem check_any (k n b o : Int) (w : World) : Calls Try.prog 11 #[.agg #[.int .u8 k, .int .i64 n, .int .i64 b, .int .i64 o]] w fun e w' => e = .returned (.int .i64 (errB (mayB k n b o))) ∧ Below w.heap.size w w' := by
  cases h : mayB k n b o
  · exact check_false k n b o h w
  · exact check_true k n b o h w
theorem rcheck_any (k n b o : Int) (w : World) : Calls Try.prog 12 #[.agg #[.int .u8 k, .int .i64 n, .int .i64 b, .int .i64 o]] w fun e w' => e = .returned (.int .i64 (errB (mayB k n b o))) ∧ Below w.heap.size w w' := by
  cases h : mayB k n b o
  · exact rcheck_false k n b o h w
  · exact rcheck_true k n b o h w

def firK (k : Int) : Int := if k = 1 ∨ k = 2 ∨ k = 3 then k else 0
def firE (k : Int) : Int := if k = 1 ∨ k = 2 ∨ k = 3 then 0 else 2

theorem first_1 (w : World) : Calls Try.prog 9 #[.int .u8 1] w fun e w' => e = .returned (.tuple #[.agg #[.int .u8 1, .int .i64 0, .int .i64 0, .int .i64 0], .int .i64 0]) ∧ Below w.heap.size w w' := by
  go_enter Try.func9, Try.ntmps9
  go_wp2
  exact bodyPost_ret (v := .tuple #[.agg #[.int .u8 1, .int .i64 0, .int .i64 0, .int .i64 0], .int .i64 0]) (by simp [results, Try.results9, go_sem]) rfl ⟨rfl, (Below.refl _ _).alloc (Nat.le_refl _) _⟩

theorem first_2 (w : World) : Calls Try.prog 9 #[.int .u8 2] w fun e w' => e = .returned (.tuple #[.agg #[.int .u8 2, .int .i64 0, .int .i64 0, .int .i64 0], .int .i64 0]) ∧ Below w.heap.size w w' := by
  go_enter Try.func9, Try.ntmps9
  go_wp2
  exact bodyPost_ret (v := .tuple #[.agg #[.int .u8 2, .int .i64 0, .int .i64 0, .int .i64 0], .int .i64 0]) (by simp [results, Try.results9, go_sem]) rfl ⟨rfl, (Below.refl _ _).alloc (Nat.le_refl _) _⟩

theorem first_3 (w : World) : Calls Try.prog 9 #[.int .u8 3] w fun e w' => e = .returned (.tuple #[.agg #[.int .u8 3, .int .i64 0, .int .i64 0, .int .i64 0], .int .i64 0]) ∧ Below w.heap.size w w' := by
  go_enter Try.func9, Try.ntmps9
  go_wp2
  exact bodyPost_ret (v := .tuple #[.agg #[.int .u8 3, .int .i64 0, .int .i64 0, .int .i64 0], .int .i64 0]) (by simp [results, Try.results9, go_sem]) rfl ⟨rfl, (Below.refl _ _).alloc (Nat.le_refl _) _⟩

theorem first_no (k : Int) (h1 : ¬ k = 1) (h2 : ¬ k = 2) (h3 : ¬ k = 3) (hk : 0 ≤ k) (w : World) : Calls Try.prog 9 #[.int .u8 k] w fun e w' => e = .returned (.tuple #[.agg #[.int .u8 0, .int .i64 0, .int .i64 0, .int .i64 0], .int .i64 2]) ∧ Below w.heap.size w w' := by
  have g : k < 1 ∨ 3 < k := by omega
  rcases g with g | g
  all_goals
    have e1 : (k == 1) = false := by simp; omega
    have e2 : (k == 2) = false := by simp; omega
    have e3 : (k == 3) = false := by simp; omega
    go_enter Try.func9, Try.ntmps9
    go_wp2
    exact bodyPost_ret (v := .tuple #[.agg #[.int .u8 0, .int .i64 0, .int .i64 0, .int .i64 0], .int .i64 2]) (by simp [results, Try.results9, go_sem]) rfl ⟨rfl, (Below.refl _ _).alloc (Nat.le_refl _) _⟩

theorem first_any (k : Int) (hk : 0 ≤ k) (w : World) : Calls Try.prog 9 #[.int .u8 k] w fun e w' => e = .returned (.tuple #[.agg #[.int .u8 (firK k), .int .i64 0, .int .i64 0, .int .i64 0], .int .i64 (firE k)]) ∧ Below w.heap.size w w' := by
  by_cases h1 : k = 1
  · subst h1; exact first_1 w
  by_cases h2 : k = 2
  · subst h2; exact first_2 w
  by_cases h3 : k = 3
  · subst h3; exact first_3 w
  simp only [firK, firE, h1, h2, h3, or_self, if_false]
  exact first_no k h1 h2 h3 hk w

theorem rfirst_1 (w : World) : Calls Try.prog 10 #[.int .u8 1] w fun e w' => e = .returned (.tuple #[.agg #[.int .u8 1, .int .i64 0, .int .i64 0, .int .i64 0], .int .i64 0]) ∧ Below w.heap.size w w' := by
  go_enter Try.func10, Try.ntmps10
  go_wp2
  exact bodyPost_ret (v := .tuple #[.agg #[.int .u8 1, .int .i64 0, .int .i64 0, .int .i64 0], .int .i64 0]) (by simp [results, Try.results10, go_sem]) rfl ⟨rfl, (Below.refl _ _).alloc (Nat.le_refl _) _⟩

theorem rfirst_2 (w : World) : Calls Try.prog 10 #[.int .u8 2] w fun e w' => e = .returned (.tuple #[.agg #[.int .u8 2, .int .i64 0, .int .i64 0, .int .i64 0], .int .i64 0]) ∧ Below w.heap.size w w' := by
  go_enter Try.func10, Try.ntmps10
  go_wp2
  exact bodyPost_ret (v := .tuple #[.agg #[.int .u8 2, .int .i64 0, .int .i64 0, .int .i64 0], .int .i64 0]) (by simp [results, Try.results10, go_sem]) rfl ⟨rfl, (Below.refl _ _).alloc (Nat.le_refl _) _⟩

theorem rfirst_3 (w : World) : Calls Try.prog 10 #[.int .u8 3] w fun e w' => e = .returned (.tuple #[.agg #[.int .u8 3, .int .i64 0, .int .i64 0, .int .i64 0], .int .i64 0]) ∧ Below w.heap.size w w' := by
  go_enter Try.func10, Try.ntmps10
  go_wp2
  exact bodyPost_ret (v := .tuple #[.agg #[.int .u8 3, .int .i64 0, .int .i64 0, .int .i64 0], .int .i64 0]) (by simp [results, Try.results10, go_sem]) rfl ⟨rfl, (Below.refl _ _).alloc (Nat.le_refl _) _⟩

theorem rfirst_no (k : Int) (h1 : ¬ k = 1) (h2 : ¬ k = 2) (h3 : ¬ k = 3) (hk : 0 ≤ k) (w : World) : Calls Try.prog 10 #[.int .u8 k] w fun e w' => e = .returned (.tuple #[.agg #[.int .u8 0, .int .i64 0, .int .i64 0, .int .i64 0], .int .i64 2]) ∧ Below w.heap.size w w' := by
  have g : k < 1 ∨ 3 < k := by omega
  rcases g with g | g
  all_goals
    have e1 : (k == 1) = false := by simp; omega
    have e2 : (k == 2) = false := by simp; omega
    have e3 : (k == 3) = false := by simp; omega
    go_enter Try.func10, Try.ntmps10
    go_wp2
    exact bodyPost_ret (v := .tuple #[.agg #[.int .u8 0, .int .i64 0, .int .i64 0, .int .i64 0], .int .i64 2]) (by simp [results, Try.results10, go_sem]) rfl ⟨rfl, (Below.refl _ _).alloc (Nat.le_refl _) _⟩

theorem rfirst_any (k : Int) (hk : 0 ≤ k) (w : World) : Calls Try.prog 10 #[.int .u8 k] w fun e w' => e = .returned (.tuple #[.agg #[.int .u8 (firK k), .int .i64 0, .int .i64 0, .int .i64 0], .int .i64 (firE k)]) ∧ Below w.heap.size w w' := by
  by_cases h1 : k = 1
  · subst h1; exact rfirst_1 w
  by_cases h2 : k = 2
  · subst h2; exact rfirst_2 w
  by_cases h3 : k = 3
  · subst h3; exact rfirst_3 w
  simp only [firK, firE, h1, h2, h3, or_self, if_false]
  exact rfirst_no k h1 h2 h3 hk w

def fitB (k n b o t : Int) : Bool := mayB k n b o && k == t
theorem bcell {W w1 : World} (hb : Below W.heap.size W w1) : (∀ b o, b < W.heap.size → w1.cell? ⟨b, o, none⟩ = W.cell? ⟨b, o, none⟩) ∧ (∀ b o, b < W.heap.size → w1.frozen? ⟨b, o, none⟩ = W.frozen? ⟨b, o, none⟩) :=
  ⟨fun b o h => hb.cell (p := ⟨b, o, none⟩) h, fun b o h => hb.frozen (p := ⟨b, o, none⟩) h⟩

theorem rfits_true (k n b o t : Int) (h : Hid (mayB k n b o = true)) (w : World) : Calls Try.prog 14 #[.agg #[.int .u8 k, .int .i64 n, .int .i64 b, .int .i64 o], .int .u8 t] w fun e w' => e = .returned (.bool (true && k == t)) ∧ Below w.heap.size w w' := by
  go_enter Try.func14, Try.ntmps14
  go_wp2_with fail
  (with_reducible refine (may_true _ _ _ _ h _).mono ?_); rintro e w1 ⟨rfl, h1⟩
  obtain ⟨c1, f1⟩ := bcell h1
  go_wp2
  go_ret
  exact ⟨rfl, ((Below.refl _ _).alloc (Nat.le_refl _) _).trans (h1.mono (by simp))⟩

theorem rfits_false (k n b o t : Int) (h : Hid (mayB k n b o = false)) (w : World) : Calls Try.prog 14 #[.agg #[.int .u8 k, .int .i64 n, .int .i64 b, .int .i64 o], .int .u8 t] w fun e w' => e = .returned (.bool (false && k == t)) ∧ Below w.heap.size w w' := by
  go_enter Try.func14, Try.ntmps14
  go_wp2_with fail
  (with_reducible refine (may_false _ _ _ _ h _).mono ?_); rintro e w1 ⟨rfl, h1⟩
  obtain ⟨c1, f1⟩ := bcell h1
  go_wp2
  go_ret
  exact ⟨rfl, ((Below.refl _ _).alloc (Nat.le_refl _) _).trans (h1.mono (by simp))⟩

theorem fits_1_true (k n b o : Int) (h : Hid (mayB k n b o = true)) (w : World) : Calls Try.prog 13 #[.agg #[.int .u8 k, .int .i64 n, .int .i64 b, .int .i64 o], .int .u8 1] w fun e w' => e = .returned (.bool (true && k == 1)) ∧ Below w.heap.size w w' := by
  go_enter Try.func13, Try.ntmps13
  go_wp2_with fail
  (with_reducible refine (first_1 _).mono ?_); rintro e w1 ⟨rfl, h1⟩
  obtain ⟨c1, f1⟩ := bcell h1
  have hz : w.heap.size < w1.heap.size := by have := h1.size; simp at this; omega
  go_wp2_with fail
  (with_reducible refine (check_true _ _ _ _ h _).mono ?_); rintro e w2 ⟨rfl, h2⟩
  obtain ⟨c2, f2⟩ := bcell h2
  have hz2 : w1.heap.size < w2.heap.size := by have := h2.size; simp at this; omega
  go_wp2
  go_ret
  refine ⟨rfl, ?_⟩
  refine Below.trans ?_ (h2.mono (by simp; omega))
  refine Below.alloc ?_ (by omega) _
  refine Below.trans ?_ (h1.mono (by simp))
  exact (Below.refl _ _).alloc (Nat.le_refl _) _

theorem fits_1_false (k n b o : Int) (h : Hid (mayB k n b o = false)) (w : World) : Calls Try.prog 13 #[.agg #[.int .u8 k, .int .i64 n, .int .i64 b, .int .i64 o], .int .u8 1] w fun e w' => e = .returned (.bool (false && k == 1)) ∧ Below w.heap.size w w' := by
  go_enter Try.func13, Try.ntmps13
  go_wp2_with fail
  (with_reducible refine (first_1 _).mono ?_); rintro e w1 ⟨rfl, h1⟩
  obtain ⟨c1, f1⟩ := bcell h1
  have hz : w.heap.size < w1.heap.size := by have := h1.size; simp at this; omega
  go_wp2_with fail
  (with_reducible refine (check_false _ _ _ _ h _).mono ?_); rintro e w2 ⟨rfl, h2⟩
  obtain ⟨c2, f2⟩ := bcell h2
  have hz2 : w1.heap.size < w2.heap.size := by have := h2.size; simp at this; omega
  go_wp2
  go_ret
  refine ⟨rfl, ?_⟩
  refine Below.trans ?_ (h2.mono (by simp; omega))
  refine Below.alloc ?_ (by omega) _
  refine Below.trans ?_ (h1.mono (by simp))
  exact (Below.refl _ _).alloc (Nat.le_refl _) _

theorem fits_2_true (k n b o : Int) (h : Hid (mayB k n b o = true)) (w : World) : Calls Try.prog 13 #[.agg #[.int .u8 k, .int .i64 n, .int .i64 b, .int .i64 o], .int .u8 2] w fun e w' => e = .returned (.bool (true && k == 2)) ∧ Below w.heap.size w w' := by
  go_enter Try.func13, Try.ntmps13
  go_wp2_with fail
  (with_reducible refine (first_2 _).mono ?_); rintro e w1 ⟨rfl, h1⟩
  obtain ⟨c1, f1⟩ := bcell h1
  have hz : w.heap.size < w1.heap.size := by have := h1.size; simp at this; omega
  go_wp2_with fail
  (with_reducible refine (check_true _ _ _ _ h _).mono ?_); rintro e w2 ⟨rfl, h2⟩
  obtain ⟨c2, f2⟩ := bcell h2
  have hz2 : w1.heap.size < w2.heap.size := by have := h2.size; simp at this; omega
  go_wp2
  go_ret
  refine ⟨rfl, ?_⟩
  refine Below.trans ?_ (h2.mono (by simp; omega))
  refine Below.alloc ?_ (by omega) _
  refine Below.trans ?_ (h1.mono (by simp))
  exact (Below.refl _ _).alloc (Nat.le_refl _) _

theorem fits_2_false (k n b o : Int) (h : Hid (mayB k n b o = false)) (w : World) : Calls Try.prog 13 #[.agg #[.int .u8 k, .int .i64 n, .int .i64 b, .int .i64 o], .int .u8 2] w fun e w' => e = .returned (.bool (false && k == 2)) ∧ Below w.heap.size w w' := by
  go_enter Try.func13, Try.ntmps13
  go_wp2_with fail
  (with_reducible refine (first_2 _).mono ?_); rintro e w1 ⟨rfl, h1⟩
  obtain ⟨c1, f1⟩ := bcell h1
  have hz : w.heap.size < w1.heap.size := by have := h1.size; simp at this; omega
  go_wp2_with fail
  (with_reducible refine (check_false _ _ _ _ h _).mono ?_); rintro e w2 ⟨rfl, h2⟩
  obtain ⟨c2, f2⟩ := bcell h2
  have hz2 : w1.heap.size < w2.heap.size := by have := h2.size; simp at this; omega
  go_wp2
  go_ret
  refine ⟨rfl, ?_⟩
  refine Below.trans ?_ (h2.mono (by simp; omega))
  refine Below.alloc ?_ (by omega) _
  refine Below.trans ?_ (h1.mono (by simp))
  exact (Below.refl _ _).alloc (Nat.le_refl _) _

theorem fits_3_true (k n b o : Int) (h : Hid (mayB k n b o = true)) (w : World) : Calls Try.prog 13 #[.agg #[.int .u8 k, .int .i64 n, .int .i64 b, .int .i64 o], .int .u8 3] w fun e w' => e = .returned (.bool (true && k == 3)) ∧ Below w.heap.size w w' := by
  go_enter Try.func13, Try.ntmps13
  go_wp2_with fail
  (with_reducible refine (first_3 _).mono ?_); rintro e w1 ⟨rfl, h1⟩
  obtain ⟨c1, f1⟩ := bcell h1
  have hz : w.heap.size < w1.heap.size := by have := h1.size; simp at this; omega
  go_wp2_with fail
  (with_reducible refine (check_true _ _ _ _ h _).mono ?_); rintro e w2 ⟨rfl, h2⟩
  obtain ⟨c2, f2⟩ := bcell h2
  have hz2 : w1.heap.size < w2.heap.size := by have := h2.size; simp at this; omega
  go_wp2
  go_ret
  refine ⟨rfl, ?_⟩
  refine Below.trans ?_ (h2.mono (by simp; omega))
  refine Below.alloc ?_ (by omega) _
  refine Below.trans ?_ (h1.mono (by simp))
  exact (Below.refl _ _).alloc (Nat.le_refl _) _

theorem fits_3_false (k n b o : Int) (h : Hid (mayB k n b o = false)) (w : World) : Calls Try.prog 13 #[.agg #[.int .u8 k, .int .i64 n, .int .i64 b, .int .i64 o], .int .u8 3] w fun e w' => e = .returned (.bool (false && k == 3)) ∧ Below w.heap.size w w' := by
  go_enter Try.func13, Try.ntmps13
  go_wp2_with fail
  (with_reducible refine (first_3 _).mono ?_); rintro e w1 ⟨rfl, h1⟩
  obtain ⟨c1, f1⟩ := bcell h1
  have hz : w.heap.size < w1.heap.size := by have := h1.size; simp at this; omega
  go_wp2_with fail
  (with_reducible refine (check_false _ _ _ _ h _).mono ?_); rintro e w2 ⟨rfl, h2⟩
  obtain ⟨c2, f2⟩ := bcell h2
  have hz2 : w1.heap.size < w2.heap.size := by have := h2.size; simp at this; omega
  go_wp2
  go_ret
  refine ⟨rfl, ?_⟩
  refine Below.trans ?_ (h2.mono (by simp; omega))
  refine Below.alloc ?_ (by omega) _
  refine Below.trans ?_ (h1.mono (by simp))
  exact (Below.refl _ _).alloc (Nat.le_refl _) _

theorem fits_no (k n b o t : Int) (h1 : ¬ t = 1) (h2 : ¬ t = 2) (h3 : ¬ t = 3) (hk : 0 ≤ t) (w : World) : Calls Try.prog 13 #[.agg #[.int .u8 k, .int .i64 n, .int .i64 b, .int .i64 o], .int .u8 t] w fun e w' => e = .returned (.bool false) ∧ Below w.heap.size w w' := by
  go_enter Try.func13, Try.ntmps13
  go_wp2_with fail
  (with_reducible refine (first_no _ h1 h2 h3 hk _).mono ?_); rintro e w1 ⟨rfl, h1⟩
  obtain ⟨c1, f1⟩ := bcell h1
  have hz : w.heap.size < w1.heap.size := by have := h1.size; simp at this; omega
  go_wp2
  go_ret
  refine ⟨rfl, ?_⟩
  refine Below.alloc ?_ (by omega) _
  refine Below.trans ?_ (h1.mono (by simp))
  exact (Below.refl _ _).alloc (Nat.le_refl _) _

theorem rfits_any (k n b o t : Int) (w : World) : Calls Try.prog 14 #[.agg #[.int .u8 k, .int .i64 n, .int .i64 b, .int .i64 o], .int .u8 t] w fun e w' => e = .returned (.bool (fitB k n b o t)) ∧ Below w.heap.size w w' := by
  unfold fitB
  cases h : mayB k n b o
  · exact rfits_false k n b o t h w
  · exact rfits_true k n b o t h w

theorem fits_any (k n b o t : Int) (ht : 0 ≤ t) (w : World) : Calls Try.prog 13 #[.agg #[.int .u8 k, .int .i64 n, .int .i64 b, .int .i64 o], .int .u8 t] w fun e w' => e = .returned (.bool (fitB k n b o t)) ∧ Below w.heap.size w w' := by
  unfold fitB
  by_cases h1 : t = 1
  · subst h1
    cases h : mayB k n b o
    · exact fits_1_false k n b o h w
    · exact fits_1_true k n b o h w
  by_cases h2 : t = 2
  · subst h2
    cases h : mayB k n b o
    · exact fits_2_false k n b o h w
    · exact fits_2_true k n b o h w
  by_cases h3 : t = 3
  · subst h3
    cases h : mayB k n b o
    · exact fits_3_false k n b o h w
    · exact fits_3_true k n b o h w
  have e : (mayB k n b o && k == t) = false := by
    cases h : mayB k n b o
    · rfl
    · have := mayB_true.1 h
      simp only [Bool.true_and, beq_eq_false_iff_ne, ne_eq]
      omega
  rw [e]
  exact fits_no k n b o t h1 h2 h3 ht w

end Go.Proofs.Ytjnhbchpledmdaa

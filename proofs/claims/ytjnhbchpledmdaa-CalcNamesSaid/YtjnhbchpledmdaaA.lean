/- The contracts of calc's own functions (Do and what it calls): each answers by a plain number; no condition but that a divisor is not 0. -/
import Derived.Test.YtjnhbchpledmdaaRows
import Derived.WalkKit
import Derived.ProofKit
import Derived.OpenShut
import Derived.Below
import Derived.Outline
namespace Go.Proofs.Ytjnhbchpledmdaa
open Go.ChangeShapes Go.WideShapes Go.ChangeAt Go.RowKit
set_option linter.unusedVariables false

def truthF (b : Bool) : Int := if b then 1 else 0

theorem truth_any (b : Bool) (w : World) :
    Calls Try.prog 22 #[.bool b] w fun e w' => e = .returned (.int .i64 (truthF b)) ∧ w = w' := by
  cases b
  all_goals
    go_enter Try.func22, Try.ntmps22
    go_wp2
    go_ret
    exact ⟨rfl, rfl⟩

theorem below_mono {w v w' : World} (h : Below v.heap.size v w') (hv : w.heap.size ≤ v.heap.size) : Below w.heap.size v w' := h.mono hv

theorem done_add (a b : Int) (w : World) : Calls Try.prog 20 #[.int .u8 4, .agg #[.int .i64 a, .int .i64 b]] w fun e w' => e = .returned (.int .i64 (wrap64 (a + b))) ∧ Below w.heap.size w w' := by
  go_enter Try.func20, Try.ntmps20
  go_wp2
  go_ret
  exact ⟨rfl, (Below.refl _ _).alloc (Nat.le_refl _) _⟩

theorem do_add (a b : Int) (w : World) : Calls Try.prog 15 #[.int .u8 4, .int .i64 a, .int .i64 b] w fun e w' => e = .returned (.tuple #[.int .i64 (wrap64 (a + b)), .int .i64 0]) ∧ Below w.heap.size w w' := by
  go_enter Try.func15, Try.ntmps15
  go_wp2_with (go_at_call 20; refine (done_add _ _ _).mono ?_; rintro e w' ⟨rfl, hb⟩)
  go_ret2
  exact ⟨rfl, ((Below.refl _ _).alloc (Nat.le_refl _) _).trans (hb.mono (by simp))⟩

theorem is_add (a b c : Int) (w : World) (hc : wrap64 (a + b) = c) : Calls Try.prog 18 #[.int .u8 4, .int .i64 a, .int .i64 b, .int .i64 c] w fun e w' => e = .returned (.bool true) ∧ Below w.heap.size w w' := by
  subst hc
  go_enter Try.func18, Try.ntmps18
  go_wp2_with (go_at_call 15; refine (do_add _ _ _).mono ?_; rintro e w' ⟨rfl, hb⟩)
  go_ret
  exact ⟨rfl, hb⟩

theorem done_sub (a b : Int) (w : World) : Calls Try.prog 20 #[.int .u8 5, .agg #[.int .i64 a, .int .i64 b]] w fun e w' => e = .returned (.int .i64 (wrap64 (a - b))) ∧ Below w.heap.size w w' := by
  go_enter Try.func20, Try.ntmps20
  go_wp2
  go_ret
  exact ⟨rfl, (Below.refl _ _).alloc (Nat.le_refl _) _⟩

theorem do_sub (a b : Int) (w : World) : Calls Try.prog 15 #[.int .u8 5, .int .i64 a, .int .i64 b] w fun e w' => e = .returned (.tuple #[.int .i64 (wrap64 (a - b)), .int .i64 0]) ∧ Below w.heap.size w w' := by
  go_enter Try.func15, Try.ntmps15
  go_wp2_with (go_at_call 20; refine (done_sub _ _ _).mono ?_; rintro e w' ⟨rfl, hb⟩)
  go_ret2
  exact ⟨rfl, ((Below.refl _ _).alloc (Nat.le_refl _) _).trans (hb.mono (by simp))⟩

theorem is_sub (a b c : Int) (w : World) (hc : wrap64 (a - b) = c) : Calls Try.prog 18 #[.int .u8 5, .int .i64 a, .int .i64 b, .int .i64 c] w fun e w' => e = .returned (.bool true) ∧ Below w.heap.size w w' := by
  subst hc
  go_enter Try.func18, Try.ntmps18
  go_wp2_with (go_at_call 15; refine (do_sub _ _ _).mono ?_; rintro e w' ⟨rfl, hb⟩)
  go_ret
  exact ⟨rfl, hb⟩

theorem done_mul (a b : Int) (w : World) : Calls Try.prog 20 #[.int .u8 6, .agg #[.int .i64 a, .int .i64 b]] w fun e w' => e = .returned (.int .i64 (wrap64 (a * b))) ∧ Below w.heap.size w w' := by
  go_enter Try.func20, Try.ntmps20
  go_wp2
  go_ret
  exact ⟨rfl, (Below.refl _ _).alloc (Nat.le_refl _) _⟩

theorem do_mul (a b : Int) (w : World) : Calls Try.prog 15 #[.int .u8 6, .int .i64 a, .int .i64 b] w fun e w' => e = .returned (.tuple #[.int .i64 (wrap64 (a * b)), .int .i64 0]) ∧ Below w.heap.size w w' := by
  go_enter Try.func15, Try.ntmps15
  go_wp2_with (go_at_call 20; refine (done_mul _ _ _).mono ?_; rintro e w' ⟨rfl, hb⟩)
  go_ret2
  exact ⟨rfl, ((Below.refl _ _).alloc (Nat.le_refl _) _).trans (hb.mono (by simp))⟩

theorem is_mul (a b c : Int) (w : World) (hc : wrap64 (a * b) = c) : Calls Try.prog 18 #[.int .u8 6, .int .i64 a, .int .i64 b, .int .i64 c] w fun e w' => e = .returned (.bool true) ∧ Below w.heap.size w w' := by
  subst hc
  go_enter Try.func18, Try.ntmps18
  go_wp2_with (go_at_call 15; refine (do_mul _ _ _).mono ?_; rintro e w' ⟨rfl, hb⟩)
  go_ret
  exact ⟨rfl, hb⟩

theorem done_div (a b : Int) (w : World) (hb : ¬ b = 0) : Calls Try.prog 20 #[.int .u8 7, .agg #[.int .i64 a, .int .i64 b]] w fun e w' => e = .returned (.int .i64 (wrap64 (a.tdiv b))) ∧ Below w.heap.size w w' := by
  go_enter Try.func20, Try.ntmps20
  go_wp2
  go_ret
  exact ⟨rfl, (Below.refl _ _).alloc (Nat.le_refl _) _⟩

theorem do_div (a b : Int) (w : World) (hb : ¬ b = 0) : Calls Try.prog 15 #[.int .u8 7, .int .i64 a, .int .i64 b] w fun e w' => e = .returned (.tuple #[.int .i64 (wrap64 (a.tdiv b)), .int .i64 0]) ∧ Below w.heap.size w w' := by
  go_enter Try.func15, Try.ntmps15
  go_wp2_with (go_at_call 20; refine (done_div _ _ _ hb).mono ?_; rintro e w' ⟨rfl, hb⟩)
  go_ret2
  exact ⟨rfl, ((Below.refl _ _).alloc (Nat.le_refl _) _).trans (hb.mono (by simp))⟩

theorem is_div (a b c : Int) (w : World) (hb : ¬ b = 0) (hc : wrap64 (a.tdiv b) = c) : Calls Try.prog 18 #[.int .u8 7, .int .i64 a, .int .i64 b, .int .i64 c] w fun e w' => e = .returned (.bool true) ∧ Below w.heap.size w w' := by
  subst hc
  go_enter Try.func18, Try.ntmps18
  go_wp2_with (go_at_call 15; refine (do_div _ _ _ hb).mono ?_; rintro e w' ⟨rfl, hb⟩)
  go_ret
  exact ⟨rfl, hb⟩

theorem done_less (a b : Int) (w : World) : Calls Try.prog 20 #[.int .u8 8, .agg #[.int .i64 a, .int .i64 b]] w fun e w' => e = .returned (.int .i64 (truthF (decide (a < b)))) ∧ Below w.heap.size w w' := by
  go_enter Try.func20, Try.ntmps20
  go_wp2_with (go_at_call 22; refine (truth_any _ _).mono ?_; rintro e w' ⟨rfl, rfl⟩)
  go_ret
  exact ⟨rfl, (Below.refl _ _).alloc (Nat.le_refl _) _⟩

theorem do_less (a b : Int) (w : World) : Calls Try.prog 15 #[.int .u8 8, .int .i64 a, .int .i64 b] w fun e w' => e = .returned (.tuple #[.int .i64 (truthF (decide (a < b))), .int .i64 0]) ∧ Below w.heap.size w w' := by
  go_enter Try.func15, Try.ntmps15
  go_wp2_with (go_at_call 20; refine (done_less _ _ _).mono ?_; rintro e w' ⟨rfl, hb⟩)
  go_ret2
  exact ⟨rfl, ((Below.refl _ _).alloc (Nat.le_refl _) _).trans (hb.mono (by simp))⟩

theorem is_less (a b c : Int) (w : World) (hc : truthF (decide (a < b)) = c) : Calls Try.prog 18 #[.int .u8 8, .int .i64 a, .int .i64 b, .int .i64 c] w fun e w' => e = .returned (.bool true) ∧ Below w.heap.size w w' := by
  subst hc
  go_enter Try.func18, Try.ntmps18
  go_wp2_with (go_at_call 15; refine (do_less _ _ _).mono ?_; rintro e w' ⟨rfl, hb⟩)
  go_ret
  exact ⟨rfl, hb⟩

theorem done_eq (a b : Int) (w : World) : Calls Try.prog 20 #[.int .u8 9, .agg #[.int .i64 a, .int .i64 b]] w fun e w' => e = .returned (.int .i64 (truthF (a == b))) ∧ Below w.heap.size w w' := by
  go_enter Try.func20, Try.ntmps20
  go_wp2_with (go_at_call 22; refine (truth_any _ _).mono ?_; rintro e w' ⟨rfl, rfl⟩)
  go_ret
  exact ⟨rfl, (Below.refl _ _).alloc (Nat.le_refl _) _⟩

theorem do_eq (a b : Int) (w : World) : Calls Try.prog 15 #[.int .u8 9, .int .i64 a, .int .i64 b] w fun e w' => e = .returned (.tuple #[.int .i64 (truthF (a == b)), .int .i64 0]) ∧ Below w.heap.size w w' := by
  go_enter Try.func15, Try.ntmps15
  go_wp2_with (go_at_call 20; refine (done_eq _ _ _).mono ?_; rintro e w' ⟨rfl, hb⟩)
  go_ret2
  exact ⟨rfl, ((Below.refl _ _).alloc (Nat.le_refl _) _).trans (hb.mono (by simp))⟩

theorem is_eq (a b c : Int) (w : World) (hc : truthF (a == b) = c) : Calls Try.prog 18 #[.int .u8 9, .int .i64 a, .int .i64 b, .int .i64 c] w fun e w' => e = .returned (.bool true) ∧ Below w.heap.size w w' := by
  subst hc
  go_enter Try.func18, Try.ntmps18
  go_wp2_with (go_at_call 15; refine (do_eq _ _ _).mono ?_; rintro e w' ⟨rfl, hb⟩)
  go_ret
  exact ⟨rfl, hb⟩

theorem do_div0 (a : Int) (w : World) : Calls Try.prog 15 #[.int .u8 7, .int .i64 a, .int .i64 0] w fun e w' => e = .returned (.tuple #[.int .i64 0, .int .i64 130]) ∧ Below w.heap.size w w' := by
  go_enter Try.func15, Try.ntmps15
  go_wp2
  go_ret2
  exact ⟨rfl, (Below.refl _ _).alloc (Nat.le_refl _) _⟩

theorem do_low (op a b : Int) (h : op < 4) (w : World) : Calls Try.prog 15 #[.int .u8 op, .int .i64 a, .int .i64 b] w fun e w' => e = .returned (.tuple #[.int .i64 0, .int .i64 2]) ∧ Below w.heap.size w w' := by
  go_enter Try.func15, Try.ntmps15
  go_wp2
  go_ret2
  exact ⟨rfl, (Below.refl _ _).alloc (Nat.le_refl _) _⟩

theorem do_high (op a b : Int) (h : 9 < op) (w : World) : Calls Try.prog 15 #[.int .u8 op, .int .i64 a, .int .i64 b] w fun e w' => e = .returned (.tuple #[.int .i64 0, .int .i64 2]) ∧ Below w.heap.size w w' := by
  have h4 : ¬ op < 4 := by omega
  go_enter Try.func15, Try.ntmps15
  go_wp2
  go_ret2
  exact ⟨rfl, (Below.refl _ _).alloc (Nat.le_refl _) _⟩

theorem al1 : wrap64 (9223372036854775807 + 1) = -9223372036854775808 := by unfold wrap64; omega
theorem al2 : wrap64 (4294967296 * 4294967296) = 0 := by unfold wrap64; omega
theorem al3 : wrap64 ((-7 : Int).tdiv 2) = -3 := by unfold wrap64; decide
theorem al4 : truthF (decide ((-1 : Int) < 0)) = 1 := by decide
theorem alive_any (w : World) : Calls Try.prog 17 #[] w fun e w' => e = .returned (.bool true) ∧ Below w.heap.size w w' := by
  go_enter Try.func17, Try.ntmps17
  go_wp2_with fail
  (with_reducible refine (is_add _ _ _ _ al1).mono ?_); rintro e w1 ⟨rfl, h1⟩
  go_wp2_with fail
  (with_reducible refine (is_mul _ _ _ _ al2).mono ?_); rintro e w2 ⟨rfl, h2⟩
  go_wp2_with fail
  (with_reducible refine (is_div _ _ _ _ (by omega) al3).mono ?_); rintro e w3 ⟨rfl, h3⟩
  go_wp2_with fail
  (with_reducible refine (is_less _ _ _ _ al4).mono ?_); rintro e w4 ⟨rfl, h4⟩
  go_wp2
  go_ret
  exact ⟨rfl, ((h1.trans (h2.mono h1.size)).trans (h3.mono (Nat.le_trans h1.size h2.size))).trans (h4.mono (Nat.le_trans (Nat.le_trans h1.size h2.size) h3.size))⟩

end Go.Proofs.Ytjnhbchpledmdaa

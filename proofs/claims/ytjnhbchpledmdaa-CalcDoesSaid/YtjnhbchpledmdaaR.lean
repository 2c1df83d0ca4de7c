/- The contracts of the document's own calc (fescueref13.Do and what it calls): each answers as calc's does. -/
import Derived.Test.YtjnhbchpledmdaaRows
import Derived.WalkKit
import Derived.ProofKit
import Derived.OpenShut
import Derived.Below
import Derived.Test.YtjnhbchpledmdaaA
import Derived.Test.YtjnhbchpledmdaaB
namespace Go.Proofs.Ytjnhbchpledmdaa
open Go.ChangeShapes Go.WideShapes Go.ChangeAt Go.RowKit
set_option linter.unusedVariables false

theorem ret_i64 {a b : Int} (h : a = b) : Ending.returned (.int .i64 a) = .returned (.int .i64 b) := by rw [h]
theorem u_neg (a : Int) (h0 : a < 0) (h1 : -9223372036854775808 ≤ a) : IntKind.u64.wrap (-(IntKind.u64.wrap a)) = -a := by
  rw [IntKind.wrap_u64 a, IntKind.wrap_u64]
  omega
theorem quo_pp (a b : Int) (ha : 0 ≤ a) (hb : 0 < b) : wrap64 (a / b) = wrap64 (a.tdiv b) := by rw [Int.tdiv_eq_ediv_of_nonneg ha]
theorem u_once (q : Int) : wrap64 (IntKind.u64.wrap q) = wrap64 q := by
  rw [IntKind.wrap_u64]
  unfold wrap64
  omega
theorem u_twice (q : Int) : wrap64 (IntKind.u64.wrap (-IntKind.u64.wrap (-q))) = wrap64 q := by
  rw [IntKind.wrap_u64, IntKind.wrap_u64]
  unfold wrap64
  omega

theorem quot_pp (a b : Int) (ha0 : 0 ≤ a) (ha : a ≤ 9223372036854775807) (hb0 : 0 < b) (hb : b ≤ 9223372036854775807) (w : World) :
    Calls Try.prog 23 #[.int .i64 a, .int .i64 b] w fun e w' => e = .returned (.int .i64 (wrap64 (a.tdiv b))) ∧ w = w' := by
  have d1 : decide (a < 0) = false := by simp; omega
  have d2 : decide (b < 0) = false := by simp; omega
  go_enter Try.func23, Try.ntmps23
  go_wp2
  go_ret
  exact ⟨ret_i64 (quo_pp _ _ ha0 hb0), rfl⟩
theorem quot_np (a b : Int) (ha0 : a < 0) (ha : -9223372036854775808 ≤ a) (hb0 : 0 < b) (hb : b ≤ 9223372036854775807) (w : World) :
    Calls Try.prog 23 #[.int .i64 a, .int .i64 b] w fun e w' => e = .returned (.int .i64 (wrap64 (a.tdiv b))) ∧ w = w' := by
  have d1 : decide (a < 0) = true := by simp; omega
  have d2 : decide (b < 0) = false := by simp; omega
  have n1 := u_neg a ha0 ha
  have n2 : 0 ≤ -a := by omega
  go_enter Try.func23, Try.ntmps23
  go_wp2
  go_ret
  exact ⟨ret_i64 (u_twice _), rfl⟩
theorem quot_pn (a b : Int) (ha0 : 0 ≤ a) (ha : a ≤ 9223372036854775807) (hb0 : b < 0) (hb : -9223372036854775808 ≤ b) (w : World) :
    Calls Try.prog 23 #[.int .i64 a, .int .i64 b] w fun e w' => e = .returned (.int .i64 (wrap64 (a.tdiv b))) ∧ w = w' := by
  have d1 : decide (a < 0) = false := by simp; omega
  have d2 : decide (b < 0) = true := by simp; omega
  have n1 := u_neg b hb0 hb
  have n2 : 0 < -b := by omega
  go_enter Try.func23, Try.ntmps23
  go_wp2
  go_ret
  exact ⟨ret_i64 (u_twice _), rfl⟩
theorem quot_nn (a b : Int) (ha0 : a < 0) (ha : -9223372036854775808 ≤ a) (hb0 : b < 0) (hb : -9223372036854775808 ≤ b) (w : World) :
    Calls Try.prog 23 #[.int .i64 a, .int .i64 b] w fun e w' => e = .returned (.int .i64 (wrap64 (a.tdiv b))) ∧ w = w' := by
  have d1 : decide (a < 0) = true := by simp; omega
  have d2 : decide (b < 0) = true := by simp; omega
  have n1 := u_neg b hb0 hb
  have n2 : 0 < -b := by omega
  have n3 := u_neg a ha0 ha
  have n4 : 0 ≤ -a := by omega
  go_enter Try.func23, Try.ntmps23
  go_wp2
  go_ret
  exact ⟨ret_i64 (u_once _), rfl⟩

theorem quot_any (a b : Int) (ha : -9223372036854775808 ≤ a ∧ a ≤ 9223372036854775807) (hb : -9223372036854775808 ≤ b ∧ b ≤ 9223372036854775807) (h0 : ¬ b = 0) (w : World) :
    Calls Try.prog 23 #[.int .i64 a, .int .i64 b] w fun e w' => e = .returned (.int .i64 (wrap64 (a.tdiv b))) ∧ w = w' := by
  by_cases h1 : a < 0 <;> by_cases h2 : b < 0
  · exact quot_nn a b h1 ha.1 h2 hb.1 w
  · exact quot_np a b h1 ha.1 (by omega) hb.2 w
  · exact quot_pn a b (by omega) ha.2 h2 hb.1 w
  · exact quot_pp a b (by omega) ha.2 (by omega) hb.2 w

theorem rtruth_any (b : Bool) (w : World) :
    Calls Try.prog 24 #[.bool b] w fun e w' => e = .returned (.int .i64 (truthF b)) ∧ w = w' := by
  cases b
  all_goals
    go_enter Try.func24, Try.ntmps24
    go_wp2
    go_ret
    exact ⟨rfl, rfl⟩

theorem u_ex (x : Int) : ∃ k : Int, IntKind.u64.wrap x = x + k * 18446744073709551616 := by
  refine ⟨-(x / 18446744073709551616), ?_⟩
  rw [IntKind.wrap_u64]
  omega
theorem u_add (a b : Int) : wrap64 (IntKind.u64.wrap (IntKind.u64.wrap a + IntKind.u64.wrap b)) = wrap64 (a + b) := by
  obtain ⟨k, hk⟩ := u_ex a
  obtain ⟨l, hl⟩ := u_ex b
  obtain ⟨m, hm⟩ := u_ex (IntKind.u64.wrap a + IntKind.u64.wrap b)
  rw [hm, hk, hl, show a + k * 18446744073709551616 + (b + l * 18446744073709551616) + m * 18446744073709551616 = a + b + (k + l + m) * 18446744073709551616 by omega, wrap_add]
theorem u_sub (a b : Int) : wrap64 (IntKind.u64.wrap (IntKind.u64.wrap a - IntKind.u64.wrap b)) = wrap64 (a - b) := by
  obtain ⟨k, hk⟩ := u_ex a
  obtain ⟨l, hl⟩ := u_ex b
  obtain ⟨m, hm⟩ := u_ex (IntKind.u64.wrap a - IntKind.u64.wrap b)
  rw [hm, hk, hl, show a + k * 18446744073709551616 - (b + l * 18446744073709551616) + m * 18446744073709551616 = a - b + (k - l + m) * 18446744073709551616 by omega, wrap_add]
theorem u_mul (a b : Int) : wrap64 (IntKind.u64.wrap (IntKind.u64.wrap a * IntKind.u64.wrap b)) = wrap64 (a * b) := by
  obtain ⟨k, hk⟩ := u_ex a
  obtain ⟨l, hl⟩ := u_ex b
  obtain ⟨m, hm⟩ := u_ex (IntKind.u64.wrap a * IntKind.u64.wrap b)
  rw [hm, hk, hl, wrap_add, Int.add_mul, Int.mul_add, Int.mul_add, ← Int.mul_assoc a l, show k * 18446744073709551616 * b = k * b * 18446744073709551616 by rw [Int.mul_assoc, Int.mul_comm _ b, ← Int.mul_assoc],
    show k * 18446744073709551616 * (l * 18446744073709551616) = k * 18446744073709551616 * l * 18446744073709551616 by rw [Int.mul_assoc, Int.mul_assoc, Int.mul_assoc], ← Int.add_assoc, wrap_add, wrap_add, wrap_add]

theorem rec_add (a b : Int) (w : World) : Calls Try.prog 21 #[.int .u8 4, .int .i64 a, .int .i64 b] w fun e w' => e = .returned (.int .i64 (wrap64 (a + b))) ∧ w = w' := by
  go_enter Try.func21, Try.ntmps21
  go_wp2
  go_ret
  exact ⟨ret_i64 (u_add _ _), rfl⟩

theorem ref_add (a b : Int) (w : World) : Calls Try.prog 16 #[.int .u8 4, .int .i64 a, .int .i64 b] w fun e w' => e = .returned (.tuple #[.int .i64 (wrap64 (a + b)), .int .i64 0]) ∧ w = w' := by
  go_enter Try.func16, Try.ntmps16
  go_wp2_with (go_at_call 21; refine (rec_add _ _ _).mono ?_; rintro e w' ⟨rfl, rfl⟩)
  go_ret2
  exact ⟨rfl, rfl⟩

theorem rec_sub (a b : Int) (w : World) : Calls Try.prog 21 #[.int .u8 5, .int .i64 a, .int .i64 b] w fun e w' => e = .returned (.int .i64 (wrap64 (a - b))) ∧ w = w' := by
  go_enter Try.func21, Try.ntmps21
  go_wp2
  go_ret
  exact ⟨ret_i64 (u_sub _ _), rfl⟩

theorem ref_sub (a b : Int) (w : World) : Calls Try.prog 16 #[.int .u8 5, .int .i64 a, .int .i64 b] w fun e w' => e = .returned (.tuple #[.int .i64 (wrap64 (a - b)), .int .i64 0]) ∧ w = w' := by
  go_enter Try.func16, Try.ntmps16
  go_wp2_with (go_at_call 21; refine (rec_sub _ _ _).mono ?_; rintro e w' ⟨rfl, rfl⟩)
  go_ret2
  exact ⟨rfl, rfl⟩

theorem rec_mul (a b : Int) (w : World) : Calls Try.prog 21 #[.int .u8 6, .int .i64 a, .int .i64 b] w fun e w' => e = .returned (.int .i64 (wrap64 (a * b))) ∧ w = w' := by
  go_enter Try.func21, Try.ntmps21
  go_wp2
  go_ret
  exact ⟨ret_i64 (u_mul _ _), rfl⟩

theorem ref_mul (a b : Int) (w : World) : Calls Try.prog 16 #[.int .u8 6, .int .i64 a, .int .i64 b] w fun e w' => e = .returned (.tuple #[.int .i64 (wrap64 (a * b)), .int .i64 0]) ∧ w = w' := by
  go_enter Try.func16, Try.ntmps16
  go_wp2_with (go_at_call 21; refine (rec_mul _ _ _).mono ?_; rintro e w' ⟨rfl, rfl⟩)
  go_ret2
  exact ⟨rfl, rfl⟩

theorem rec_div (a b : Int) (ha : Hid (-9223372036854775808 ≤ a ∧ a ≤ 9223372036854775807)) (hb : Hid (-9223372036854775808 ≤ b ∧ b ≤ 9223372036854775807)) (h0 : ¬ b = 0) (w : World) : Calls Try.prog 21 #[.int .u8 7, .int .i64 a, .int .i64 b] w fun e w' => e = .returned (.int .i64 (wrap64 (a.tdiv b))) ∧ w = w' := by
  go_enter Try.func21, Try.ntmps21
  go_wp2_with (go_at_call 23; refine (quot_any _ _ ha.out hb.out h0 _).mono ?_; rintro e w' ⟨rfl, rfl⟩)
  go_ret
  exact ⟨rfl, rfl⟩

theorem ref_div (a b : Int) (ha : Hid (-9223372036854775808 ≤ a ∧ a ≤ 9223372036854775807)) (hb : Hid (-9223372036854775808 ≤ b ∧ b ≤ 9223372036854775807)) (h0 : ¬ b = 0) (w : World) : Calls Try.prog 16 #[.int .u8 7, .int .i64 a, .int .i64 b] w fun e w' => e = .returned (.tuple #[.int .i64 (wrap64 (a.tdiv b)), .int .i64 0]) ∧ w = w' := by
  go_enter Try.func16, Try.ntmps16
  go_wp2_with (go_at_call 21; refine (rec_div _ _ ha hb h0 _).mono ?_; rintro e w' ⟨rfl, rfl⟩)
  go_ret2
  exact ⟨rfl, rfl⟩

theorem rec_less (a b : Int) (w : World) : Calls Try.prog 21 #[.int .u8 8, .int .i64 a, .int .i64 b] w fun e w' => e = .returned (.int .i64 (truthF (decide (a < b)))) ∧ w = w' := by
  go_enter Try.func21, Try.ntmps21
  go_wp2_with (go_at_call 24; refine (rtruth_any _ _).mono ?_; rintro e w' ⟨rfl, rfl⟩)
  go_ret
  exact ⟨rfl, rfl⟩

theorem ref_less (a b : Int) (w : World) : Calls Try.prog 16 #[.int .u8 8, .int .i64 a, .int .i64 b] w fun e w' => e = .returned (.tuple #[.int .i64 (truthF (decide (a < b))), .int .i64 0]) ∧ w = w' := by
  go_enter Try.func16, Try.ntmps16
  go_wp2_with (go_at_call 21; refine (rec_less _ _ _).mono ?_; rintro e w' ⟨rfl, rfl⟩)
  go_ret2
  exact ⟨rfl, rfl⟩

theorem rec_eq (a b : Int) (w : World) : Calls Try.prog 21 #[.int .u8 9, .int .i64 a, .int .i64 b] w fun e w' => e = .returned (.int .i64 (truthF (a == b))) ∧ w = w' := by
  go_enter Try.func21, Try.ntmps21
  go_wp2_with (go_at_call 24; refine (rtruth_any _ _).mono ?_; rintro e w' ⟨rfl, rfl⟩)
  go_ret
  exact ⟨rfl, rfl⟩

theorem ref_eq (a b : Int) (w : World) : Calls Try.prog 16 #[.int .u8 9, .int .i64 a, .int .i64 b] w fun e w' => e = .returned (.tuple #[.int .i64 (truthF (a == b)), .int .i64 0]) ∧ w = w' := by
  go_enter Try.func16, Try.ntmps16
  go_wp2_with (go_at_call 21; refine (rec_eq _ _ _).mono ?_; rintro e w' ⟨rfl, rfl⟩)
  go_ret2
  exact ⟨rfl, rfl⟩

theorem ref_div0 (a : Int) (w : World) : Calls Try.prog 16 #[.int .u8 7, .int .i64 a, .int .i64 0] w fun e w' => e = .returned (.tuple #[.int .i64 0, .int .i64 130]) ∧ w = w' := by
  go_enter Try.func16, Try.ntmps16
  go_wp2
  go_ret2
  exact ⟨rfl, rfl⟩

theorem ref_low (op a b : Int) (h : op < 4) (w : World) : Calls Try.prog 16 #[.int .u8 op, .int .i64 a, .int .i64 b] w fun e w' => e = .returned (.tuple #[.int .i64 0, .int .i64 2]) ∧ w = w' := by
  go_enter Try.func16, Try.ntmps16
  go_wp2
  go_ret2
  exact ⟨rfl, rfl⟩

theorem ref_high (op a b : Int) (h : 9 < op) (w : World) : Calls Try.prog 16 #[.int .u8 op, .int .i64 a, .int .i64 b] w fun e w' => e = .returned (.tuple #[.int .i64 0, .int .i64 2]) ∧ w = w' := by
  have h4 : ¬ op < 4 := by omega
  go_enter Try.func16, Try.ntmps16
  go_wp2
  go_ret2
  exact ⟨rfl, rfl⟩

end Go.Proofs.Ytjnhbchpledmdaa

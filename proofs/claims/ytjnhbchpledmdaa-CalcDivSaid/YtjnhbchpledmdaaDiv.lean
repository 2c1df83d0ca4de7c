/- CalcDiv: a quotient times the divisor, and what is left, are the number, and what is left is smaller than the divisor and of the number's own sign; the call answers true at every two numbers. No condition. -/
import Derived.Test.YtjnhbchpledmdaaRows
import Derived.WalkKit
import Derived.ProofKit
import Derived.OpenShut
import Derived.Below
import Derived.Outline
import Derived.Test.YtjnhbchpledmdaaA
import Derived.Test.YtjnhbchpledmdaaB
namespace Go.Proofs.Ytjnhbchpledmdaa.calcDiv
open Go.ChangeShapes Go.WideShapes Go.ChangeAt Go.RowKit
set_option linter.unusedVariables false      -- a walk need not use every 'w<i>' (that an integer argument fits its kind)

theorem own : ownKnob Try.prog.godebug = none := by kernel_rfl

theorem laidOut : laidOutB Try.prog = true := by kernel_rfl

theorem div_is (a b : Int) (r : Int) (w : World) (hb : ¬ b = 0) (h : wrap64 (a.tdiv b) = r) : Calls Try.prog 15 #[.int .u8 7, .int .i64 a, .int .i64 b] w fun e w' => e = .returned (.tuple #[.int .i64 r, .int .i64 0]) ∧ Below w.heap.size w w' := by
  subst h; exact do_div a b w hb
theorem mul_is (a b : Int) (r : Int) (w : World) (h : wrap64 (a * b) = r) : Calls Try.prog 15 #[.int .u8 6, .int .i64 a, .int .i64 b] w fun e w' => e = .returned (.tuple #[.int .i64 r, .int .i64 0]) ∧ Below w.heap.size w w' := by
  subst h; exact do_mul a b w
theorem sub_is (a b : Int) (r : Int) (w : World) (h : wrap64 (a - b) = r) : Calls Try.prog 15 #[.int .u8 5, .int .i64 a, .int .i64 b] w fun e w' => e = .returned (.tuple #[.int .i64 r, .int .i64 0]) ∧ Below w.heap.size w w' := by
  subst h; exact do_sub a b w

theorem left_of (a b : Int) (ha : -9223372036854775807 ≤ a ∧ a ≤ 9223372036854775807) (hb : -9223372036854775807 ≤ b ∧ b ≤ 9223372036854775807) (h0 : ¬ b = 0) :
    ∃ q m r : Int, wrap64 (a.tdiv b) = q ∧ wrap64 (q * b) = m ∧ wrap64 (a - m) = r ∧ wrap64 (m + r) = a ∧ (r < 0 → a < 0) ∧ (0 < r → 0 ≤ a) ∧
      -9223372036854775807 ≤ r ∧ r ≤ 9223372036854775807 ∧ (0 ≤ r → 0 < b → r < b) ∧ (0 ≤ r → b < 0 → r < -b) ∧ (r < 0 → 0 < b → -r < b) ∧ (r < 0 → b < 0 → -r < -b) := by
  have h1 : b * a.tdiv b + a.tmod b = a := Int.mul_tdiv_add_tmod a b
  have h2 : (a.tdiv b).natAbs = a.natAbs / b.natAbs := Int.natAbs_tdiv a b
  have h3 := Int.natAbs_tmod a b
  have h4 : a.natAbs % b.natAbs < b.natAbs := Nat.mod_lt _ (by omega)
  have h5 : a.natAbs / b.natAbs ≤ a.natAbs := Nat.div_le_self _ _
  have h6 : a.natAbs % b.natAbs ≤ a.natAbs := Nat.mod_le _ _
  have h7 : 0 ≤ a → 0 ≤ a.tmod b := fun h => Int.tmod_nonneg b h
  have h8 : a ≤ 0 → a.tmod b ≤ 0 := fun h => by
    have := Int.tmod_nonneg (a := -a) b (by omega)
    rw [Int.neg_tmod] at this
    omega
  refine ⟨a.tdiv b, b * a.tdiv b, a.tmod b, ?_, ?_, ?_, ?_, ?_, ?_, ?_, ?_, ?_, ?_, ?_, ?_⟩
  · unfold wrap64; omega
  · rw [Int.mul_comm]; unfold wrap64; omega
  · unfold wrap64; omega
  · unfold wrap64; omega
  all_goals omega

set_option maxHeartbeats 1000000 in
theorem walk_zero (a : Int) (w : World) :
    Calls Try.prog 6 #[.int .i64 a, .int .i64 0] w fun e w' => e = .returned (.bool true) ∧ Below w.heap.size w w' := by
  go_enter Try.func6, Try.ntmps6
  go_wp2_with fail
  (with_reducible refine (alive_any _).mono ?_); rintro e w1 ⟨rfl, h1⟩
  go_wp2_with fail
  (with_reducible refine (do_div0 _ _).mono ?_); rintro e w2 ⟨rfl, h2⟩
  go_wp2
  go_ret
  have s1 := h1.size
  have g1 := h1
  have g2 := g1.trans (h2.mono s1)
  exact ⟨rfl, g2⟩

set_option maxHeartbeats 1000000 in
theorem walk_least (a b : Int) (h0 : ¬ b = 0) (h : a = -9223372036854775808 ∨ b = -9223372036854775808) (w : World) :
    Calls Try.prog 6 #[.int .i64 a, .int .i64 b] w fun e w' => e = .returned (.bool true) ∧ Below w.heap.size w w' := by
  rcases h with rfl | rfl
  · go_enter Try.func6, Try.ntmps6
    go_wp2_with fail
    (with_reducible refine (alive_any _).mono ?_); rintro e w1 ⟨rfl, h1⟩
    go_wp2_with fail
    (with_reducible refine (do_div _ _ _ h0).mono ?_); rintro e w2 ⟨rfl, h2⟩
    go_wp2
    go_ret
    have s1 := h1.size
    have g1 := h1
    have g2 := g1.trans (h2.mono s1)
    exact ⟨rfl, g2⟩
  · by_cases ha : a = -9223372036854775808
    all_goals
      go_enter Try.func6, Try.ntmps6
      go_wp2_with fail
      (with_reducible refine (alive_any _).mono ?_); rintro e w1 ⟨rfl, h1⟩
      go_wp2_with fail
      (with_reducible refine (do_div _ _ _ h0).mono ?_); rintro e w2 ⟨rfl, h2⟩
      go_wp2
      go_ret
      have s1 := h1.size
      have g1 := h1
      have g2 := g1.trans (h2.mono s1)
      exact ⟨rfl, g2⟩

set_option maxHeartbeats 1000000 in
theorem walk_neg_neg (a b q m r : Int) (Q : Hid (wrap64 (a.tdiv b) = q)) (M : Hid (wrap64 (q * b) = m)) (R : Hid (wrap64 (a - m) = r)) (S : Hid (wrap64 (m + r) = a)) (hB : Hid (¬ b = 0)) (hA : (a == -9223372036854775808) = false) (hB' : (b == -9223372036854775808) = false)
    (b1 : -9223372036854775807 ≤ b) (b2 : b ≤ 9223372036854775807) (r1 : -9223372036854775807 ≤ r) (r2 : r ≤ 9223372036854775807) (hb : b < 0) (hr : r < 0) (hs : a < 0) (hlt : -r < -b) (w : World) :
    Calls Try.prog 6 #[.int .i64 a, .int .i64 b] w fun e w' => e = .returned (.bool true) ∧ Below w.heap.size w w' := by
  have hz : (r == 0) = false := by simp; omega
  go_enter Try.func6, Try.ntmps6
  go_wp2_with fail
  (with_reducible refine (alive_any _).mono ?_); rintro e w1 ⟨rfl, h1⟩
  go_wp2_with fail
  (with_reducible refine (div_is _ _ _ _ hB.out Q.out).mono ?_); rintro e w2 ⟨rfl, h2⟩
  go_wp2_with fail
  (with_reducible refine (mul_is _ _ _ _ M.out).mono ?_); rintro e w3 ⟨rfl, h3⟩
  go_wp2_with fail
  (with_reducible refine (sub_is _ _ _ _ R.out).mono ?_); rintro e w4 ⟨rfl, h4⟩
  go_wp2_with fail
  (with_reducible refine (is_add _ _ _ _ S.out).mono ?_); rintro e w5 ⟨rfl, h5⟩
  go_wp2
  go_ret
  have s1 := h1.size
  have s2 := Nat.le_trans s1 h2.size
  have s3 := Nat.le_trans s2 h3.size
  have s4 := Nat.le_trans s3 h4.size
  have g1 := h1
  have g2 := g1.trans (h2.mono s1)
  have g3 := g2.trans (h3.mono s2)
  have g4 := g3.trans (h4.mono s3)
  have g5 := g4.trans (h5.mono s4)
  exact ⟨rfl, g5⟩

set_option maxHeartbeats 1000000 in
theorem walk_neg_none (a b q m r : Int) (Q : Hid (wrap64 (a.tdiv b) = q)) (M : Hid (wrap64 (q * b) = m)) (R : Hid (wrap64 (a - m) = r)) (S : Hid (wrap64 (m + r) = a)) (hB : Hid (¬ b = 0)) (hA : (a == -9223372036854775808) = false) (hB' : (b == -9223372036854775808) = false)
    (b1 : -9223372036854775807 ≤ b) (b2 : b ≤ 9223372036854775807) (r1 : -9223372036854775807 ≤ r) (r2 : r ≤ 9223372036854775807) (hb : b < 0) (hr : r = 0) (hlt : 0 < -b) (w : World) :
    Calls Try.prog 6 #[.int .i64 a, .int .i64 b] w fun e w' => e = .returned (.bool true) ∧ Below w.heap.size w w' := by
  subst hr
  go_enter Try.func6, Try.ntmps6
  go_wp2_with fail
  (with_reducible refine (alive_any _).mono ?_); rintro e w1 ⟨rfl, h1⟩
  go_wp2_with fail
  (with_reducible refine (div_is _ _ _ _ hB.out Q.out).mono ?_); rintro e w2 ⟨rfl, h2⟩
  go_wp2_with fail
  (with_reducible refine (mul_is _ _ _ _ M.out).mono ?_); rintro e w3 ⟨rfl, h3⟩
  go_wp2_with fail
  (with_reducible refine (sub_is _ _ _ _ R.out).mono ?_); rintro e w4 ⟨rfl, h4⟩
  go_wp2_with fail
  (with_reducible refine (is_add _ _ _ _ S.out).mono ?_); rintro e w5 ⟨rfl, h5⟩
  go_wp2
  go_ret
  have s1 := h1.size
  have s2 := Nat.le_trans s1 h2.size
  have s3 := Nat.le_trans s2 h3.size
  have s4 := Nat.le_trans s3 h4.size
  have g1 := h1
  have g2 := g1.trans (h2.mono s1)
  have g3 := g2.trans (h3.mono s2)
  have g4 := g3.trans (h4.mono s3)
  have g5 := g4.trans (h5.mono s4)
  exact ⟨rfl, g5⟩

set_option maxHeartbeats 1000000 in
theorem walk_neg_pos (a b q m r : Int) (Q : Hid (wrap64 (a.tdiv b) = q)) (M : Hid (wrap64 (q * b) = m)) (R : Hid (wrap64 (a - m) = r)) (S : Hid (wrap64 (m + r) = a)) (hB : Hid (¬ b = 0)) (hA : (a == -9223372036854775808) = false) (hB' : (b == -9223372036854775808) = false)
    (b1 : -9223372036854775807 ≤ b) (b2 : b ≤ 9223372036854775807) (r1 : -9223372036854775807 ≤ r) (r2 : r ≤ 9223372036854775807) (hb : b < 0) (hr : 0 < r) (hs : ¬ a < 0) (hlt : r < -b) (w : World) :
    Calls Try.prog 6 #[.int .i64 a, .int .i64 b] w fun e w' => e = .returned (.bool true) ∧ Below w.heap.size w w' := by
  have hz : (r == 0) = false := by simp; omega
  go_enter Try.func6, Try.ntmps6
  go_wp2_with fail
  (with_reducible refine (alive_any _).mono ?_); rintro e w1 ⟨rfl, h1⟩
  go_wp2_with fail
  (with_reducible refine (div_is _ _ _ _ hB.out Q.out).mono ?_); rintro e w2 ⟨rfl, h2⟩
  go_wp2_with fail
  (with_reducible refine (mul_is _ _ _ _ M.out).mono ?_); rintro e w3 ⟨rfl, h3⟩
  go_wp2_with fail
  (with_reducible refine (sub_is _ _ _ _ R.out).mono ?_); rintro e w4 ⟨rfl, h4⟩
  go_wp2_with fail
  (with_reducible refine (is_add _ _ _ _ S.out).mono ?_); rintro e w5 ⟨rfl, h5⟩
  go_wp2
  go_ret
  have s1 := h1.size
  have s2 := Nat.le_trans s1 h2.size
  have s3 := Nat.le_trans s2 h3.size
  have s4 := Nat.le_trans s3 h4.size
  have g1 := h1
  have g2 := g1.trans (h2.mono s1)
  have g3 := g2.trans (h3.mono s2)
  have g4 := g3.trans (h4.mono s3)
  have g5 := g4.trans (h5.mono s4)
  exact ⟨rfl, g5⟩

set_option maxHeartbeats 1000000 in
theorem walk_pos_neg (a b q m r : Int) (Q : Hid (wrap64 (a.tdiv b) = q)) (M : Hid (wrap64 (q * b) = m)) (R : Hid (wrap64 (a - m) = r)) (S : Hid (wrap64 (m + r) = a)) (hB : Hid (¬ b = 0)) (hA : (a == -9223372036854775808) = false) (hB' : (b == -9223372036854775808) = false)
    (b1 : -9223372036854775807 ≤ b) (b2 : b ≤ 9223372036854775807) (r1 : -9223372036854775807 ≤ r) (r2 : r ≤ 9223372036854775807) (hb : 0 < b) (hr : r < 0) (hs : a < 0) (hlt : -r < b) (w : World) :
    Calls Try.prog 6 #[.int .i64 a, .int .i64 b] w fun e w' => e = .returned (.bool true) ∧ Below w.heap.size w w' := by
  have hz : (r == 0) = false := by simp; omega
  go_enter Try.func6, Try.ntmps6
  go_wp2_with fail
  (with_reducible refine (alive_any _).mono ?_); rintro e w1 ⟨rfl, h1⟩
  go_wp2_with fail
  (with_reducible refine (div_is _ _ _ _ hB.out Q.out).mono ?_); rintro e w2 ⟨rfl, h2⟩
  go_wp2_with fail
  (with_reducible refine (mul_is _ _ _ _ M.out).mono ?_); rintro e w3 ⟨rfl, h3⟩
  go_wp2_with fail
  (with_reducible refine (sub_is _ _ _ _ R.out).mono ?_); rintro e w4 ⟨rfl, h4⟩
  go_wp2_with fail
  (with_reducible refine (is_add _ _ _ _ S.out).mono ?_); rintro e w5 ⟨rfl, h5⟩
  go_wp2
  go_ret
  have s1 := h1.size
  have s2 := Nat.le_trans s1 h2.size
  have s3 := Nat.le_trans s2 h3.size
  have s4 := Nat.le_trans s3 h4.size
  have g1 := h1
  have g2 := g1.trans (h2.mono s1)
  have g3 := g2.trans (h3.mono s2)
  have g4 := g3.trans (h4.mono s3)
  have g5 := g4.trans (h5.mono s4)
  exact ⟨rfl, g5⟩

set_option maxHeartbeats 1000000 in
theorem walk_pos_none (a b q m r : Int) (Q : Hid (wrap64 (a.tdiv b) = q)) (M : Hid (wrap64 (q * b) = m)) (R : Hid (wrap64 (a - m) = r)) (S : Hid (wrap64 (m + r) = a)) (hB : Hid (¬ b = 0)) (hA : (a == -9223372036854775808) = false) (hB' : (b == -9223372036854775808) = false)
    (b1 : -9223372036854775807 ≤ b) (b2 : b ≤ 9223372036854775807) (r1 : -9223372036854775807 ≤ r) (r2 : r ≤ 9223372036854775807) (hb : 0 < b) (hr : r = 0) (hlt : 0 < b) (w : World) :
    Calls Try.prog 6 #[.int .i64 a, .int .i64 b] w fun e w' => e = .returned (.bool true) ∧ Below w.heap.size w w' := by
  subst hr
  go_enter Try.func6, Try.ntmps6
  go_wp2_with fail
  (with_reducible refine (alive_any _).mono ?_); rintro e w1 ⟨rfl, h1⟩
  go_wp2_with fail
  (with_reducible refine (div_is _ _ _ _ hB.out Q.out).mono ?_); rintro e w2 ⟨rfl, h2⟩
  go_wp2_with fail
  (with_reducible refine (mul_is _ _ _ _ M.out).mono ?_); rintro e w3 ⟨rfl, h3⟩
  go_wp2_with fail
  (with_reducible refine (sub_is _ _ _ _ R.out).mono ?_); rintro e w4 ⟨rfl, h4⟩
  go_wp2_with fail
  (with_reducible refine (is_add _ _ _ _ S.out).mono ?_); rintro e w5 ⟨rfl, h5⟩
  go_wp2
  go_ret
  have s1 := h1.size
  have s2 := Nat.le_trans s1 h2.size
  have s3 := Nat.le_trans s2 h3.size
  have s4 := Nat.le_trans s3 h4.size
  have g1 := h1
  have g2 := g1.trans (h2.mono s1)
  have g3 := g2.trans (h3.mono s2)
  have g4 := g3.trans (h4.mono s3)
  have g5 := g4.trans (h5.mono s4)
  exact ⟨rfl, g5⟩

set_option maxHeartbeats 1000000 in
theorem walk_pos_pos (a b q m r : Int) (Q : Hid (wrap64 (a.tdiv b) = q)) (M : Hid (wrap64 (q * b) = m)) (R : Hid (wrap64 (a - m) = r)) (S : Hid (wrap64 (m + r) = a)) (hB : Hid (¬ b = 0)) (hA : (a == -9223372036854775808) = false) (hB' : (b == -9223372036854775808) = false)
    (b1 : -9223372036854775807 ≤ b) (b2 : b ≤ 9223372036854775807) (r1 : -9223372036854775807 ≤ r) (r2 : r ≤ 9223372036854775807) (hb : 0 < b) (hr : 0 < r) (hs : ¬ a < 0) (hlt : r < b) (w : World) :
    Calls Try.prog 6 #[.int .i64 a, .int .i64 b] w fun e w' => e = .returned (.bool true) ∧ Below w.heap.size w w' := by
  have hz : (r == 0) = false := by simp; omega
  go_enter Try.func6, Try.ntmps6
  go_wp2_with fail
  (with_reducible refine (alive_any _).mono ?_); rintro e w1 ⟨rfl, h1⟩
  go_wp2_with fail
  (with_reducible refine (div_is _ _ _ _ hB.out Q.out).mono ?_); rintro e w2 ⟨rfl, h2⟩
  go_wp2_with fail
  (with_reducible refine (mul_is _ _ _ _ M.out).mono ?_); rintro e w3 ⟨rfl, h3⟩
  go_wp2_with fail
  (with_reducible refine (sub_is _ _ _ _ R.out).mono ?_); rintro e w4 ⟨rfl, h4⟩
  go_wp2_with fail
  (with_reducible refine (is_add _ _ _ _ S.out).mono ?_); rintro e w5 ⟨rfl, h5⟩
  go_wp2
  go_ret
  have s1 := h1.size
  have s2 := Nat.le_trans s1 h2.size
  have s3 := Nat.le_trans s2 h3.size
  have s4 := Nat.le_trans s3 h4.size
  have g1 := h1
  have g2 := g1.trans (h2.mono s1)
  have g3 := g2.trans (h3.mono s2)
  have g4 := g3.trans (h4.mono s3)
  have g5 := g4.trans (h5.mono s4)
  exact ⟨rfl, g5⟩

theorem walk (a0 : Int) (a1 : Int) (w0 : (Lit.int .i64 a0).wf = true) (w1 : (Lit.int .i64 a1).wf = true) (w : World) :
    Calls Try.prog 6 #[.int .i64 a0, .int .i64 a1] w fun e w' => e = .returned (.bool true) ∧ Below w.heap.size w w' := by
  have b0 := wrap_of_wf w0
  have b1 := wrap_of_wf w1
  clear w0 w1
  by_cases h0 : a1 = 0
  · subst h0; exact walk_zero a0 w
  by_cases hm : a0 = -9223372036854775808 ∨ a1 = -9223372036854775808
  · exact walk_least a0 a1 h0 hm w
  have hA : (a0 == -9223372036854775808) = false := by simp; omega
  have hB' : (a1 == -9223372036854775808) = false := by simp; omega
  obtain ⟨q, m, r, Q, M, R, S, i1, i2, r1, r2, j1, j2, j3, j4⟩ := left_of a0 a1 (by omega) (by omega) h0
  rcases Int.lt_trichotomy r 0 with hr | hr | hr <;> rcases Int.lt_trichotomy a1 0 with hb | hb | hb <;> first
    | exact (h0 hb).elim
    | exact walk_neg_neg a0 a1 q m r Q M R S h0 hA hB' (by omega) (by omega) r1 r2 hb hr (i1 hr) (j4 hr hb) w
    | exact walk_pos_neg a0 a1 q m r Q M R S h0 hA hB' (by omega) (by omega) r1 r2 hb hr (i1 hr) (j3 hr hb) w
    | exact walk_neg_none a0 a1 q m r Q M R S h0 hA hB' (by omega) (by omega) r1 r2 hb hr (by omega) w
    | exact walk_pos_none a0 a1 q m r Q M R S h0 hA hB' (by omega) (by omega) r1 r2 hb hr (by omega) w
    | exact walk_neg_pos a0 a1 q m r Q M R S h0 hA hB' (by omega) (by omega) r1 r2 hb hr (by have := i2 hr; omega) (j2 (by omega) hb) w
    | exact walk_pos_pos a0 a1 q m r Q M R S h0 hA hB' (by omega) (by omega) r1 r2 hb hr (by have := i2 hr; omega) (j1 (by omega) hb) w

/-! ### THE ROW's STEP: WRITTEN OUT: LEAVE IT -/
set_option maxRecDepth 100000 in
theorem lifted (os : Os) (started : os.Started) (H : Type) (enc : TypeId × Value → H) :
    ReturnsInHanded {} Try.checked os 6 .any (Rows.calcDivSpec.pre6 enc Try.prog Try.f6 Rows.calcDivRow.domain false) (Rows.calcDivSpec.post enc Try.prog Try.f6 false true false false) := by
  refine returnsInHanded_of_change (C := Try.checked) own started (by kernel_rfl) Try.func6
    (ChangeSpec.witness6 (enc := enc) (C := Try.checked) false ⟨#[], #[.int .i64 0, .int .i64 0], []⟩ 8 (by kernel_rfl) (by kernel_rfl) (by kernel_rfl) (by kernel_rfl)) ?_
  intro W base args ds gs before hval0 hW hcnd _
  have hval : ∀ (j : Nat) t v, Try.f6.params[j]? = some t → args[j]? = some v → Value.okWide Try.prog W .any base t v := hval0
  have hW' := hW
  obtain ⟨p, q, hA0, hV, rfl, hfz, hnd⟩ := hW
  have hA : DataW.TrodAll enc Try.prog W 0 (fun _ => true) true Try.f6.params.toList args.toList ds p := hA0
  rw [Try.params6] at hA hval
  obtain ⟨v0, vs0, d0, ds0, p0, q0, hargs, rfl, rfl, h0, r0⟩ := trodAll_cons hA
  obtain ⟨v1, vs1, d1, ds1, p1, q1, rfl, rfl, rfl, h1, r1⟩ := trodAll_cons r0
  obtain ⟨rfl, rfl, rfl⟩ := trodAll_nil r1
  obtain rfl : args = #[v0, v1] := by cases args; simp_all
  obtain ⟨rfl, rfl⟩ := trodVars_none hV
  obtain ⟨a0, rfl, rfl, rfl, w0⟩ := open_int Try.underlying2 (hval 0 2 v0 rfl rfl) h0
  obtain ⟨a1, rfl, rfl, rfl, w1⟩ := open_int Try.underlying2 (hval 1 2 v1 rfl rfl) h1
  clear hA0 hval0
  simp only [List.append_nil] at hW'
  refine (walk a0 a1 w0 w1 W).mono fun e W' ⟨he, hg⟩ => ?_
  subst he
  exact ⟨_, rfl, law_post laidOut (by
    intro t ht
    simp only [Try.params6, List.mem_cons, List.not_mem_nil, or_false] at ht
    rcases ht with rfl | rfl <;> exact ⟨by kernel_rfl, of_decide_eq_true (by kernel_rfl)⟩) rfl rfl Try.underlying4 rfl hW' hg⟩

theorem over : Rows.calcDivRow.holds Try.pinned (OpenSpec.ofChange Rows.calcDivSpec) :=
  OpenClaim.holds_of_wide 6 Try.f6 rfl rfl rfl rfl rfl rfl rfl ⟨rfl, rfl, rfl, rfl, rfl⟩ rfl rfl rfl rfl rfl (by kernel_rfl) Try.func6 (by kernel_rfl)
    (of_decide_eq_true (by kernel_rfl)) (by unfold Func.isWrapper; first | (rw [if_pos (by decide +kernel)]; kernel_rfl) | (rw [if_neg (by decide +kernel)]; exact ⟨rfl, rfl⟩))
    (fun os started H enc _ => lifted os started H enc)

/-- ████ THE STATEMENT ████ -/
theorem proved : Rows.CalcDivSaid :=
  over
#print axioms proved
end Go.Proofs.Ytjnhbchpledmdaa.calcDiv

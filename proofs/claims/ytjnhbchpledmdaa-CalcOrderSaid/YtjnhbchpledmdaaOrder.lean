/- CalcOrder: of two numbers just one is less, or they are the same, and less goes on; the call answers true at every three numbers. No condition. -/
import Derived.Test.YtjnhbchpledmdaaRows
import Derived.WalkKit
import Derived.ProofKit
import Derived.OpenShut
import Derived.Below
import Derived.Outline
import Derived.Test.YtjnhbchpledmdaaA
import Derived.Test.YtjnhbchpledmdaaB
namespace Go.Proofs.Ytjnhbchpledmdaa.calcOrder
open Go.ChangeShapes Go.WideShapes Go.ChangeAt Go.RowKit
set_option linter.unusedVariables false      -- a walk need not use every 'w<i>' (that an integer argument fits its kind)

theorem own : ownKnob Try.prog.godebug = none := by kernel_rfl

theorem laidOut : laidOutB Try.prog = true := by kernel_rfl

theorem less_is (a b : Int) (r : Int) (w : World) (h : truthF (decide (a < b)) = r) : Calls Try.prog 15 #[.int .u8 8, .int .i64 a, .int .i64 b] w fun e w' => e = .returned (.tuple #[.int .i64 r, .int .i64 0]) ∧ Below w.heap.size w w' := by
  subst h; exact do_less a b w
theorem eq_is (a b : Int) (r : Int) (w : World) (h : truthF (a == b) = r) : Calls Try.prog 15 #[.int .u8 9, .int .i64 a, .int .i64 b] w fun e w' => e = .returned (.tuple #[.int .i64 r, .int .i64 0]) ∧ Below w.heap.size w w' := by
  subst h; exact do_eq a b w
theorem t1 {a b : Int} (h : a < b) : truthF (decide (a < b)) = 1 := by simp [truthF, h]
theorem t0 {a b : Int} (h : ¬ a < b) : truthF (decide (a < b)) = 0 := by simp [truthF, h]
theorem e1 {a b : Int} (h : a = b) : truthF (a == b) = 1 := by simp [truthF, h]
theorem e0 {a b : Int} (h : ¬ a = b) : truthF (a == b) = 0 := by simp [truthF, h]

set_option maxHeartbeats 1000000 in
theorem walk_lt_y (a0 a1 a2 : Int) (hab : a0 < a1) (hbc : a1 < a2) (w : World) :
    Calls Try.prog 7 #[.int .i64 a0, .int .i64 a1, .int .i64 a2] w fun e w' => e = .returned (.bool true) ∧ Below w.heap.size w w' := by
  have X : Hid (truthF (decide (a0 < a1)) = 1) := t1 (by omega)
  have Y : Hid (truthF (decide (a1 < a0)) = 0) := t0 (by omega)
  have Z : Hid (truthF (a0 == a1) = 0) := e0 (by omega)
  have N : Hid (truthF (decide (a1 < a2)) = 1) := t1 (by omega)
  have L : Hid (truthF (decide (a0 < a2)) = 1) := t1 (by omega)
  have E : (a0 == a1) = false := by simp; omega
  clear hbc hab
  go_enter Try.func7, Try.ntmps7
  go_wp2_with fail
  (with_reducible refine (alive_any _).mono ?_); rintro e w1 ⟨rfl, h1⟩
  go_wp2_with fail
  (with_reducible refine (less_is _ _ _ _ X.out).mono ?_); rintro e w2 ⟨rfl, h2⟩
  go_wp2_with fail
  (with_reducible refine (less_is _ _ _ _ Y.out).mono ?_); rintro e w3 ⟨rfl, h3⟩
  go_wp2_with fail
  (with_reducible refine (eq_is _ _ _ _ Z.out).mono ?_); rintro e w4 ⟨rfl, h4⟩
  go_wp2_with fail
  (with_reducible refine (less_is _ _ _ _ N.out).mono ?_); rintro e w5 ⟨rfl, h5⟩
  go_wp2_with fail
  (with_reducible refine (is_less _ _ _ _ L.out).mono ?_); rintro e w6 ⟨rfl, h6⟩
  go_wp2
  go_ret
  have s1 := h1.size
  have s2 := Nat.le_trans s1 h2.size
  have s3 := Nat.le_trans s2 h3.size
  have s4 := Nat.le_trans s3 h4.size
  have s5 := Nat.le_trans s4 h5.size
  have g1 := h1
  have g2 := g1.trans (h2.mono s1)
  have g3 := g2.trans (h3.mono s2)
  have g4 := g3.trans (h4.mono s3)
  have g5 := g4.trans (h5.mono s4)
  have g6 := g5.trans (h6.mono s5)
  exact ⟨rfl, g6⟩

set_option maxHeartbeats 1000000 in
theorem walk_lt_n (a0 a1 a2 : Int) (hab : a0 < a1) (hbc : ¬ a1 < a2) (w : World) :
    Calls Try.prog 7 #[.int .i64 a0, .int .i64 a1, .int .i64 a2] w fun e w' => e = .returned (.bool true) ∧ Below w.heap.size w w' := by
  have X : Hid (truthF (decide (a0 < a1)) = 1) := t1 (by omega)
  have Y : Hid (truthF (decide (a1 < a0)) = 0) := t0 (by omega)
  have Z : Hid (truthF (a0 == a1) = 0) := e0 (by omega)
  have N : Hid (truthF (decide (a1 < a2)) = 0) := t0 (by omega)
  have E : (a0 == a1) = false := by simp; omega
  clear hbc hab
  go_enter Try.func7, Try.ntmps7
  go_wp2_with fail
  (with_reducible refine (alive_any _).mono ?_); rintro e w1 ⟨rfl, h1⟩
  go_wp2_with fail
  (with_reducible refine (less_is _ _ _ _ X.out).mono ?_); rintro e w2 ⟨rfl, h2⟩
  go_wp2_with fail
  (with_reducible refine (less_is _ _ _ _ Y.out).mono ?_); rintro e w3 ⟨rfl, h3⟩
  go_wp2_with fail
  (with_reducible refine (eq_is _ _ _ _ Z.out).mono ?_); rintro e w4 ⟨rfl, h4⟩
  go_wp2_with fail
  (with_reducible refine (less_is _ _ _ _ N.out).mono ?_); rintro e w5 ⟨rfl, h5⟩
  go_wp2
  go_ret
  have s1 := h1.size
  have s2 := Nat.le_trans s1 h2.size
  have s3 := Nat.le_trans s2 h3.size
  have s4 := Nat.le_trans s3 h4.size
  have g1 := h1
  have g2 := g1.trans (h2.mono s1)
  have g3 := g2.trans (h3.mono s2)
  have g4 := g3.trans (h4.mono s3)
  have g5 := g4.trans (h5.mono s4)
  exact ⟨rfl, g5⟩

set_option maxHeartbeats 1000000 in
theorem walk_gt_y (a0 a1 a2 : Int) (hab : a1 < a0) (hbc : a1 < a2) (w : World) :
    Calls Try.prog 7 #[.int .i64 a0, .int .i64 a1, .int .i64 a2] w fun e w' => e = .returned (.bool true) ∧ Below w.heap.size w w' := by
  have X : Hid (truthF (decide (a0 < a1)) = 0) := t0 (by omega)
  have Y : Hid (truthF (decide (a1 < a0)) = 1) := t1 (by omega)
  have Z : Hid (truthF (a0 == a1) = 0) := e0 (by omega)
  have N : Hid (truthF (decide (a1 < a2)) = 1) := t1 (by omega)
  have E : (a0 == a1) = false := by simp; omega
  clear hbc hab
  go_enter Try.func7, Try.ntmps7
  go_wp2_with fail
  (with_reducible refine (alive_any _).mono ?_); rintro e w1 ⟨rfl, h1⟩
  go_wp2_with fail
  (with_reducible refine (less_is _ _ _ _ X.out).mono ?_); rintro e w2 ⟨rfl, h2⟩
  go_wp2_with fail
  (with_reducible refine (less_is _ _ _ _ Y.out).mono ?_); rintro e w3 ⟨rfl, h3⟩
  go_wp2_with fail
  (with_reducible refine (eq_is _ _ _ _ Z.out).mono ?_); rintro e w4 ⟨rfl, h4⟩
  go_wp2_with fail
  (with_reducible refine (less_is _ _ _ _ N.out).mono ?_); rintro e w5 ⟨rfl, h5⟩
  go_wp2
  go_ret
  have s1 := h1.size
  have s2 := Nat.le_trans s1 h2.size
  have s3 := Nat.le_trans s2 h3.size
  have s4 := Nat.le_trans s3 h4.size
  have g1 := h1
  have g2 := g1.trans (h2.mono s1)
  have g3 := g2.trans (h3.mono s2)
  have g4 := g3.trans (h4.mono s3)
  have g5 := g4.trans (h5.mono s4)
  exact ⟨rfl, g5⟩

set_option maxHeartbeats 1000000 in
theorem walk_gt_n (a0 a1 a2 : Int) (hab : a1 < a0) (hbc : ¬ a1 < a2) (w : World) :
    Calls Try.prog 7 #[.int .i64 a0, .int .i64 a1, .int .i64 a2] w fun e w' => e = .returned (.bool true) ∧ Below w.heap.size w w' := by
  have X : Hid (truthF (decide (a0 < a1)) = 0) := t0 (by omega)
  have Y : Hid (truthF (decide (a1 < a0)) = 1) := t1 (by omega)
  have Z : Hid (truthF (a0 == a1) = 0) := e0 (by omega)
  have N : Hid (truthF (decide (a1 < a2)) = 0) := t0 (by omega)
  have E : (a0 == a1) = false := by simp; omega
  clear hbc hab
  go_enter Try.func7, Try.ntmps7
  go_wp2_with fail
  (with_reducible refine (alive_any _).mono ?_); rintro e w1 ⟨rfl, h1⟩
  go_wp2_with fail
  (with_reducible refine (less_is _ _ _ _ X.out).mono ?_); rintro e w2 ⟨rfl, h2⟩
  go_wp2_with fail
  (with_reducible refine (less_is _ _ _ _ Y.out).mono ?_); rintro e w3 ⟨rfl, h3⟩
  go_wp2_with fail
  (with_reducible refine (eq_is _ _ _ _ Z.out).mono ?_); rintro e w4 ⟨rfl, h4⟩
  go_wp2_with fail
  (with_reducible refine (less_is _ _ _ _ N.out).mono ?_); rintro e w5 ⟨rfl, h5⟩
  go_wp2
  go_ret
  have s1 := h1.size
  have s2 := Nat.le_trans s1 h2.size
  have s3 := Nat.le_trans s2 h3.size
  have s4 := Nat.le_trans s3 h4.size
  have g1 := h1
  have g2 := g1.trans (h2.mono s1)
  have g3 := g2.trans (h3.mono s2)
  have g4 := g3.trans (h4.mono s3)
  have g5 := g4.trans (h5.mono s4)
  exact ⟨rfl, g5⟩

set_option maxHeartbeats 1000000 in
theorem walk_eq_y (a0 a1 a2 : Int) (hab : a0 = a1) (hbc : a1 < a2) (w : World) :
    Calls Try.prog 7 #[.int .i64 a0, .int .i64 a1, .int .i64 a2] w fun e w' => e = .returned (.bool true) ∧ Below w.heap.size w w' := by
  subst hab
  have X : Hid (truthF (decide (a0 < a0)) = 0) := t0 (by omega)
  have Y : Hid (truthF (decide (a0 < a0)) = 0) := t0 (by omega)
  have Z : Hid (truthF (a0 == a0) = 1) := e1 rfl
  have N : Hid (truthF (decide (a0 < a2)) = 1) := t1 (by omega)
  clear hbc
  go_enter Try.func7, Try.ntmps7
  go_wp2_with fail
  (with_reducible refine (alive_any _).mono ?_); rintro e w1 ⟨rfl, h1⟩
  go_wp2_with fail
  (with_reducible refine (less_is _ _ _ _ X.out).mono ?_); rintro e w2 ⟨rfl, h2⟩
  go_wp2_with fail
  (with_reducible refine (less_is _ _ _ _ Y.out).mono ?_); rintro e w3 ⟨rfl, h3⟩
  go_wp2_with fail
  (with_reducible refine (eq_is _ _ _ _ Z.out).mono ?_); rintro e w4 ⟨rfl, h4⟩
  go_wp2_with fail
  (with_reducible refine (less_is _ _ _ _ N.out).mono ?_); rintro e w5 ⟨rfl, h5⟩
  go_wp2
  go_ret
  have s1 := h1.size
  have s2 := Nat.le_trans s1 h2.size
  have s3 := Nat.le_trans s2 h3.size
  have s4 := Nat.le_trans s3 h4.size
  have g1 := h1
  have g2 := g1.trans (h2.mono s1)
  have g3 := g2.trans (h3.mono s2)
  have g4 := g3.trans (h4.mono s3)
  have g5 := g4.trans (h5.mono s4)
  exact ⟨rfl, g5⟩

set_option maxHeartbeats 1000000 in
theorem walk_eq_n (a0 a1 a2 : Int) (hab : a0 = a1) (hbc : ¬ a1 < a2) (w : World) :
    Calls Try.prog 7 #[.int .i64 a0, .int .i64 a1, .int .i64 a2] w fun e w' => e = .returned (.bool true) ∧ Below w.heap.size w w' := by
  subst hab
  have X : Hid (truthF (decide (a0 < a0)) = 0) := t0 (by omega)
  have Y : Hid (truthF (decide (a0 < a0)) = 0) := t0 (by omega)
  have Z : Hid (truthF (a0 == a0) = 1) := e1 rfl
  have N : Hid (truthF (decide (a0 < a2)) = 0) := t0 (by omega)
  clear hbc
  go_enter Try.func7, Try.ntmps7
  go_wp2_with fail
  (with_reducible refine (alive_any _).mono ?_); rintro e w1 ⟨rfl, h1⟩
  go_wp2_with fail
  (with_reducible refine (less_is _ _ _ _ X.out).mono ?_); rintro e w2 ⟨rfl, h2⟩
  go_wp2_with fail
  (with_reducible refine (less_is _ _ _ _ Y.out).mono ?_); rintro e w3 ⟨rfl, h3⟩
  go_wp2_with fail
  (with_reducible refine (eq_is _ _ _ _ Z.out).mono ?_); rintro e w4 ⟨rfl, h4⟩
  go_wp2_with fail
  (with_reducible refine (less_is _ _ _ _ N.out).mono ?_); rintro e w5 ⟨rfl, h5⟩
  go_wp2
  go_ret
  have s1 := h1.size
  have s2 := Nat.le_trans s1 h2.size
  have s3 := Nat.le_trans s2 h3.size
  have s4 := Nat.le_trans s3 h4.size
  have g1 := h1
  have g2 := g1.trans (h2.mono s1)
  have g3 := g2.trans (h3.mono s2)
  have g4 := g3.trans (h4.mono s3)
  have g5 := g4.trans (h5.mono s4)
  exact ⟨rfl, g5⟩

theorem walk (a0 : Int) (a1 : Int) (a2 : Int) (w0 : (Lit.int .i64 a0).wf = true) (w1 : (Lit.int .i64 a1).wf = true) (w2 : (Lit.int .i64 a2).wf = true) (w : World) :
    Calls Try.prog 7 #[.int .i64 a0, .int .i64 a1, .int .i64 a2] w fun e w' => e = .returned (.bool true) ∧ Below w.heap.size w w' := by
  clear w0 w1 w2
  by_cases hbc : a1 < a2
  · rcases Int.lt_trichotomy a0 a1 with h | h | h
    · exact walk_lt_y _ _ _ h hbc w
    · exact walk_eq_y _ _ _ h hbc w
    · exact walk_gt_y _ _ _ h hbc w
  · rcases Int.lt_trichotomy a0 a1 with h | h | h
    · exact walk_lt_n _ _ _ h hbc w
    · exact walk_eq_n _ _ _ h hbc w
    · exact walk_gt_n _ _ _ h hbc w

/-! ### THE ROW's STEP: WRITTEN OUT: LEAVE IT -/
set_option maxRecDepth 100000 in
theorem lifted (os : Os) (started : os.Started) (H : Type) (enc : TypeId × Value → H) :
    ReturnsInHanded {} Try.checked os 7 .any (Rows.calcOrderSpec.pre6 enc Try.prog Try.f7 Rows.calcOrderRow.domain false) (Rows.calcOrderSpec.post enc Try.prog Try.f7 false true false false) := by
  refine returnsInHanded_of_change (C := Try.checked) own started (by kernel_rfl) Try.func7
    (ChangeSpec.witness6 (enc := enc) (C := Try.checked) false ⟨#[], #[.int .i64 0, .int .i64 0, .int .i64 0], []⟩ 8 (by kernel_rfl) (by kernel_rfl) (by kernel_rfl) (by kernel_rfl)) ?_
  intro W base args ds gs before hval0 hW hcnd _
  have hval : ∀ (j : Nat) t v, Try.f7.params[j]? = some t → args[j]? = some v → Value.okWide Try.prog W .any base t v := hval0
  have hW' := hW
  obtain ⟨p, q, hA0, hV, rfl, hfz, hnd⟩ := hW
  have hA : DataW.TrodAll enc Try.prog W 0 (fun _ => true) true Try.f7.params.toList args.toList ds p := hA0
  rw [Try.params7] at hA hval
  obtain ⟨v0, vs0, d0, ds0, p0, q0, hargs, rfl, rfl, h0, r0⟩ := trodAll_cons hA
  obtain ⟨v1, vs1, d1, ds1, p1, q1, rfl, rfl, rfl, h1, r1⟩ := trodAll_cons r0
  obtain ⟨v2, vs2, d2, ds2, p2, q2, rfl, rfl, rfl, h2, r2⟩ := trodAll_cons r1
  obtain ⟨rfl, rfl, rfl⟩ := trodAll_nil r2
  obtain rfl : args = #[v0, v1, v2] := by cases args; simp_all
  obtain ⟨rfl, rfl⟩ := trodVars_none hV
  obtain ⟨a0, rfl, rfl, rfl, w0⟩ := open_int Try.underlying2 (hval 0 2 v0 rfl rfl) h0
  obtain ⟨a1, rfl, rfl, rfl, w1⟩ := open_int Try.underlying2 (hval 1 2 v1 rfl rfl) h1
  obtain ⟨a2, rfl, rfl, rfl, w2⟩ := open_int Try.underlying2 (hval 2 2 v2 rfl rfl) h2
  clear hA0 hval0
  simp only [List.append_nil] at hW'
  refine (walk a0 a1 a2 w0 w1 w2 W).mono fun e W' ⟨he, hg⟩ => ?_
  subst he
  exact ⟨_, rfl, law_post laidOut (by
    intro t ht
    simp only [Try.params7, List.mem_cons, List.not_mem_nil, or_false] at ht
    rcases ht with rfl | rfl | rfl <;> exact ⟨by kernel_rfl, of_decide_eq_true (by kernel_rfl)⟩) rfl rfl Try.underlying4 rfl hW' hg⟩

theorem over : Rows.calcOrderRow.holds Try.pinned (OpenSpec.ofChange Rows.calcOrderSpec) :=
  OpenClaim.holds_of_wide 7 Try.f7 rfl rfl rfl rfl rfl rfl rfl ⟨rfl, rfl, rfl, rfl, rfl⟩ rfl rfl rfl rfl rfl (by kernel_rfl) Try.func7 (by kernel_rfl)
    (of_decide_eq_true (by kernel_rfl)) (by unfold Func.isWrapper; first | (rw [if_pos (by decide +kernel)]; kernel_rfl) | (rw [if_neg (by decide +kernel)]; exact ⟨rfl, rfl⟩))
    (fun os started H enc _ => lifted os started H enc)

/-- ████ THE STATEMENT ████ -/
theorem proved : Rows.CalcOrderSaid :=
  over
#print axioms proved
end Go.Proofs.Ytjnhbchpledmdaa.calcOrder

/- CalcDoes: what calc's operations answer, or the error, is what the document's answer, for every operation and every two numbers. No condition. -/
import Derived.Test.YtjnhbchpledmdaaRows
import Derived.WalkKit
import Derived.ProofKit
import Derived.OpenShut
import Derived.Below
import Derived.Outline
import Derived.Test.YtjnhbchpledmdaaA
import Derived.Test.YtjnhbchpledmdaaB
import Derived.Test.YtjnhbchpledmdaaR
namespace Go.Proofs.Ytjnhbchpledmdaa.calcDoes
open Go.ChangeShapes Go.WideShapes Go.ChangeAt Go.RowKit
set_option linter.unusedVariables false      -- a walk need not use every 'w<i>' (that an integer argument fits its kind)

theorem own : ownKnob Try.prog.godebug = none := by kernel_rfl

theorem laidOut : laidOutB Try.prog = true := by kernel_rfl


theorem walk_low (op a b : Int) (h : op < 4) (w : World) : Calls Try.prog 4 #[.int .u8 op, .int .i64 a, .int .i64 b] w fun e w' => e = .returned (.bool true) ∧ Below w.heap.size w w' := by
  go_enter Try.func4, Try.ntmps4
  go_wp2_with fail
  (with_reducible refine (do_low _ _ _ h _).mono ?_); rintro e w1 ⟨rfl, h1⟩
  go_wp2_with fail
  (with_reducible refine (ref_low _ _ _ h _).mono ?_); rintro e w2 ⟨rfl, rfl⟩
  go_wp2
  go_ret
  exact ⟨rfl, h1⟩

theorem walk_high (op a b : Int) (h : 9 < op) (w : World) : Calls Try.prog 4 #[.int .u8 op, .int .i64 a, .int .i64 b] w fun e w' => e = .returned (.bool true) ∧ Below w.heap.size w w' := by
  go_enter Try.func4, Try.ntmps4
  go_wp2_with fail
  (with_reducible refine (do_high _ _ _ h _).mono ?_); rintro e w1 ⟨rfl, h1⟩
  go_wp2_with fail
  (with_reducible refine (ref_high _ _ _ h _).mono ?_); rintro e w2 ⟨rfl, rfl⟩
  go_wp2
  go_ret
  exact ⟨rfl, h1⟩

theorem walk_add (a b : Int) (w : World) : Calls Try.prog 4 #[.int .u8 4, .int .i64 a, .int .i64 b] w fun e w' => e = .returned (.bool true) ∧ Below w.heap.size w w' := by
  go_enter Try.func4, Try.ntmps4
  go_wp2_with fail
  (with_reducible refine (do_add _ _ _).mono ?_); rintro e w1 ⟨rfl, h1⟩
  go_wp2_with fail
  (with_reducible refine (ref_add _ _ _).mono ?_); rintro e w2 ⟨rfl, rfl⟩
  go_wp2
  go_ret
  exact ⟨rfl, h1⟩

theorem walk_sub (a b : Int) (w : World) : Calls Try.prog 4 #[.int .u8 5, .int .i64 a, .int .i64 b] w fun e w' => e = .returned (.bool true) ∧ Below w.heap.size w w' := by
  go_enter Try.func4, Try.ntmps4
  go_wp2_with fail
  (with_reducible refine (do_sub _ _ _).mono ?_); rintro e w1 ⟨rfl, h1⟩
  go_wp2_with fail
  (with_reducible refine (ref_sub _ _ _).mono ?_); rintro e w2 ⟨rfl, rfl⟩
  go_wp2
  go_ret
  exact ⟨rfl, h1⟩

theorem walk_mul (a b : Int) (w : World) : Calls Try.prog 4 #[.int .u8 6, .int .i64 a, .int .i64 b] w fun e w' => e = .returned (.bool true) ∧ Below w.heap.size w w' := by
  go_enter Try.func4, Try.ntmps4
  go_wp2_with fail
  (with_reducible refine (do_mul _ _ _).mono ?_); rintro e w1 ⟨rfl, h1⟩
  go_wp2_with fail
  (with_reducible refine (ref_mul _ _ _).mono ?_); rintro e w2 ⟨rfl, rfl⟩
  go_wp2
  go_ret
  exact ⟨rfl, h1⟩

theorem walk_less (a b : Int) (w : World) : Calls Try.prog 4 #[.int .u8 8, .int .i64 a, .int .i64 b] w fun e w' => e = .returned (.bool true) ∧ Below w.heap.size w w' := by
  go_enter Try.func4, Try.ntmps4
  go_wp2_with fail
  (with_reducible refine (do_less _ _ _).mono ?_); rintro e w1 ⟨rfl, h1⟩
  go_wp2_with fail
  (with_reducible refine (ref_less _ _ _).mono ?_); rintro e w2 ⟨rfl, rfl⟩
  go_wp2
  go_ret
  exact ⟨rfl, h1⟩

theorem walk_eq (a b : Int) (w : World) : Calls Try.prog 4 #[.int .u8 9, .int .i64 a, .int .i64 b] w fun e w' => e = .returned (.bool true) ∧ Below w.heap.size w w' := by
  go_enter Try.func4, Try.ntmps4
  go_wp2_with fail
  (with_reducible refine (do_eq _ _ _).mono ?_); rintro e w1 ⟨rfl, h1⟩
  go_wp2_with fail
  (with_reducible refine (ref_eq _ _ _).mono ?_); rintro e w2 ⟨rfl, rfl⟩
  go_wp2
  go_ret
  exact ⟨rfl, h1⟩

theorem walk_div (a b : Int) (ha : Hid (-9223372036854775808 ≤ a ∧ a ≤ 9223372036854775807)) (hb : Hid (-9223372036854775808 ≤ b ∧ b ≤ 9223372036854775807)) (h0 : ¬ b = 0) (w : World) : Calls Try.prog 4 #[.int .u8 7, .int .i64 a, .int .i64 b] w fun e w' => e = .returned (.bool true) ∧ Below w.heap.size w w' := by
  go_enter Try.func4, Try.ntmps4
  go_wp2_with fail
  (with_reducible refine (do_div _ _ _ h0).mono ?_); rintro e w1 ⟨rfl, h1⟩
  go_wp2_with fail
  (with_reducible refine (ref_div _ _ ha hb h0 _).mono ?_); rintro e w2 ⟨rfl, rfl⟩
  go_wp2
  go_ret
  exact ⟨rfl, h1⟩

theorem walk_div0 (a : Int) (w : World) : Calls Try.prog 4 #[.int .u8 7, .int .i64 a, .int .i64 0] w fun e w' => e = .returned (.bool true) ∧ Below w.heap.size w w' := by
  go_enter Try.func4, Try.ntmps4
  go_wp2_with fail
  (with_reducible refine (do_div0 _ _).mono ?_); rintro e w1 ⟨rfl, h1⟩
  go_wp2_with fail
  (with_reducible refine (ref_div0 _ _).mono ?_); rintro e w2 ⟨rfl, rfl⟩
  go_wp2
  go_ret
  exact ⟨rfl, h1⟩

theorem walk (a0 : Int) (a1 : Int) (a2 : Int) (w0 : (Lit.int .u8 a0).wf = true) (w1 : (Lit.int .i64 a1).wf = true) (w2 : (Lit.int .i64 a2).wf = true) (w : World) :
    Calls Try.prog 4 #[.int .u8 a0, .int .i64 a1, .int .i64 a2] w fun e w' => e = .returned (.bool true) ∧ Below w.heap.size w w' := by
  have b1 := wrap_of_wf w1
  have b2 := wrap_of_wf w2
  clear w0 w1 w2
  by_cases h1 : a0 < 4
  · exact walk_low _ _ _ h1 w
  by_cases h2 : 9 < a0
  · exact walk_high _ _ _ h2 w
  obtain rfl | rfl | rfl | rfl | rfl | rfl : a0 = 4 ∨ a0 = 5 ∨ a0 = 6 ∨ a0 = 7 ∨ a0 = 8 ∨ a0 = 9 := by omega
  · exact walk_add _ _ w
  · exact walk_sub _ _ w
  · exact walk_mul _ _ w
  · by_cases h0 : a2 = 0
    · subst h0; exact walk_div0 _ w
    · exact walk_div _ _ b1 b2 h0 w
  · exact walk_less _ _ w
  · exact walk_eq _ _ w

/-! ### THE ROW's STEP: WRITTEN OUT: LEAVE IT -/
set_option maxRecDepth 100000 in
theorem lifted (os : Os) (started : os.Started) (H : Type) (enc : TypeId × Value → H) :
    ReturnsInHanded {} Try.checked os 4 .any (Rows.calcDoesSpec.pre6 enc Try.prog Try.f4 Rows.calcDoesRow.domain false) (Rows.calcDoesSpec.post enc Try.prog Try.f4 false true false false) := by
  refine returnsInHanded_of_change (C := Try.checked) own started (by kernel_rfl) Try.func4
    (ChangeSpec.witness6 (enc := enc) (C := Try.checked) false ⟨#[], #[.int .u8 0, .int .i64 0, .int .i64 0], []⟩ 8 (by kernel_rfl) (by kernel_rfl) (by kernel_rfl) (by kernel_rfl)) ?_
  intro W base args ds gs before hval0 hW hcnd _
  have hval : ∀ (j : Nat) t v, Try.f4.params[j]? = some t → args[j]? = some v → Value.okWide Try.prog W .any base t v := hval0
  have hW' := hW
  obtain ⟨p, q, hA0, hV, rfl, hfz, hnd⟩ := hW
  have hA : DataW.TrodAll enc Try.prog W 0 (fun _ => true) true Try.f4.params.toList args.toList ds p := hA0
  rw [Try.params4] at hA hval
  obtain ⟨v0, vs0, d0, ds0, p0, q0, hargs, rfl, rfl, h0, r0⟩ := trodAll_cons hA
  obtain ⟨v1, vs1, d1, ds1, p1, q1, rfl, rfl, rfl, h1, r1⟩ := trodAll_cons r0
  obtain ⟨v2, vs2, d2, ds2, p2, q2, rfl, rfl, rfl, h2, r2⟩ := trodAll_cons r1
  obtain ⟨rfl, rfl, rfl⟩ := trodAll_nil r2
  obtain rfl : args = #[v0, v1, v2] := by cases args; simp_all
  obtain ⟨rfl, rfl⟩ := trodVars_none hV
  obtain ⟨a0, rfl, rfl, rfl, w0⟩ := open_int Try.underlying5 (hval 0 5 v0 rfl rfl) h0
  obtain ⟨a1, rfl, rfl, rfl, w1⟩ := open_int Try.underlying2 (hval 1 2 v1 rfl rfl) h1
  obtain ⟨a2, rfl, rfl, rfl, w2⟩ := open_int Try.underlying2 (hval 2 2 v2 rfl rfl) h2
  clear hA0 hval0
  simp only [List.append_nil] at hW'
  refine (walk a0 a1 a2 w0 w1 w2 W).mono fun e W' ⟨he, hg⟩ => ?_
  subst he
  exact ⟨_, rfl, law_post laidOut (by
    intro t ht
    simp only [Try.params4, List.mem_cons, List.not_mem_nil, or_false] at ht
    rcases ht with rfl | rfl | rfl <;> exact ⟨by kernel_rfl, of_decide_eq_true (by kernel_rfl)⟩) rfl rfl Try.underlying4 rfl hW' hg⟩

theorem over : Rows.calcDoesRow.holds Try.pinned (OpenSpec.ofChange Rows.calcDoesSpec) :=
  OpenClaim.holds_of_wide 4 Try.f4 rfl rfl rfl rfl rfl rfl rfl ⟨rfl, rfl, rfl, rfl, rfl⟩ rfl rfl rfl rfl rfl (by kernel_rfl) Try.func4 (by kernel_rfl)
    (of_decide_eq_true (by kernel_rfl)) (by unfold Func.isWrapper; first | (rw [if_pos (by decide +kernel)]; kernel_rfl) | (rw [if_neg (by decide +kernel)]; exact ⟨rfl, rfl⟩))
    (fun os started H enc _ => lifted os started H enc)

/-- ████ THE STATEMENT ████ -/
theorem proved : Rows.CalcDoesSaid :=
  over
#print axioms proved
end Go.Proofs.Ytjnhbchpledmdaa.calcDoes

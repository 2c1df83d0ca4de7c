/- CalcNames: the chapter's numbers and examples: the call answers true. No condition. -/
import Derived.Test.YtjnhbchpledmdaaRows
import Derived.WalkKit
import Derived.ProofKit
import Derived.OpenShut
import Derived.Below
import Derived.Test.YtjnhbchpledmdaaA
import Derived.Test.YtjnhbchpledmdaaB
import Derived.Test.YtjnhbchpledmdaaV
namespace Go.Proofs.Ytjnhbchpledmdaa.calcNames
open Go.ChangeShapes Go.WideShapes Go.ChangeAt Go.RowKit
set_option linter.unusedVariables false

theorem n1 : wrap64 ((-9223372036854775808 : Int).tdiv (-1)) = -9223372036854775808 := by unfold wrap64; decide
theorem n2 : wrap64 (-9223372036854775808 - 1) = 9223372036854775807 := by unfold wrap64; decide
theorem n3 : truthF ((5 : Int) == 5) = 1 := by decide
theorem n4 : truthF ((5 : Int) == 6) = 0 := by decide
theorem m1 : Hid (mayB 0 0 0 0 = false) := by unfold Hid; decide
theorem m2 : Hid (mayB 2 0 0 1 = false) := by unfold Hid; decide
theorem m3 : Hid (mayB 3 9 0 0 = false) := by unfold Hid; decide
theorem m4 : Hid (mayB 1 0 1 0 = false) := by unfold Hid; decide
theorem m5 : Hid (mayB 2 0 3 1 = true) := by unfold Hid; decide
theorem m6 : Hid (mayB 1 0 0 0 = true) := by unfold Hid; decide

set_option maxHeartbeats 2000000 in
theorem core (w : World) : Calls Try.prog 8 #[] w fun e w' => e = .returned (.bool true) ∧ Below w.heap.size w w' := by
  go_enter Try.func8, Try.ntmps8
  go_wp2_with fail
  (with_reducible refine (do_div0 _ _).mono ?_); rintro e w1 ⟨rfl, h1⟩
  go_wp2_with fail
  (with_reducible refine (do_high _ _ _ (by omega) _).mono ?_); rintro e w2 ⟨rfl, h2⟩
  go_wp2_with fail
  (with_reducible refine (first_2 _).mono ?_); rintro e w3 ⟨rfl, h3⟩
  go_wp2_with fail
  (with_reducible refine (first_no _ (by omega) (by omega) (by omega) (by omega) _).mono ?_); rintro e w4 ⟨rfl, h4⟩
  obtain ⟨c4, f4⟩ := bcell h4
  have z4 : w3.heap.size < w4.heap.size := by have := h4.size; simp at this; omega
  go_wp2_with fail
  (with_reducible refine (check_false _ _ _ _ m1 _).mono ?_); rintro e w5 ⟨rfl, h5⟩
  obtain ⟨c5, f5⟩ := bcell h5
  have z5 : w3.heap.size < w5.heap.size := by have := h5.size; simp at this; omega
  go_wp2_with fail
  (with_reducible refine (check_false _ _ _ _ m2 _).mono ?_); rintro e w6 ⟨rfl, h6⟩
  obtain ⟨c6, f6⟩ := bcell h6
  have z6 : w3.heap.size < w6.heap.size := by have := h6.size; omega
  go_wp2_with fail
  (with_reducible refine (check_false _ _ _ _ m3 _).mono ?_); rintro e w7 ⟨rfl, h7⟩
  obtain ⟨c7, f7⟩ := bcell h7
  have z7 : w3.heap.size < w7.heap.size := by have := h7.size; omega
  go_wp2_with fail
  (with_reducible refine (check_false _ _ _ _ m4 _).mono ?_); rintro e w8 ⟨rfl, h8⟩
  obtain ⟨c8, f8⟩ := bcell h8
  have z8 : w3.heap.size < w8.heap.size := by have := h8.size; omega
  go_wp2_with fail
  (with_reducible refine (alive_any _).mono ?_); rintro e w9 ⟨rfl, h9⟩
  obtain ⟨c9, f9⟩ := bcell h9
  have z9 : w3.heap.size < w9.heap.size := by have := h9.size; omega
  go_wp2_with fail
  (with_reducible refine (is_div _ _ _ _ (by omega) n1).mono ?_); rintro e w10 ⟨rfl, h10⟩
  obtain ⟨c10, f10⟩ := bcell h10
  have z10 : w3.heap.size < w10.heap.size := by have := h10.size; omega
  go_wp2_with fail
  (with_reducible refine (is_sub _ _ _ _ n2).mono ?_); rintro e w11 ⟨rfl, h11⟩
  obtain ⟨c11, f11⟩ := bcell h11
  have z11 : w3.heap.size < w11.heap.size := by have := h11.size; omega
  go_wp2_with fail
  (with_reducible refine (is_eq _ _ _ _ n3).mono ?_); rintro e w12 ⟨rfl, h12⟩
  obtain ⟨c12, f12⟩ := bcell h12
  have z12 : w3.heap.size < w12.heap.size := by have := h12.size; omega
  go_wp2_with fail
  (with_reducible refine (is_eq _ _ _ _ n4).mono ?_); rintro e w13 ⟨rfl, h13⟩
  obtain ⟨c13, f13⟩ := bcell h13
  have z13 : w3.heap.size < w13.heap.size := by have := h13.size; omega
  go_wp2_with fail
  (with_reducible refine (fits_2_true _ _ _ _ m5 _).mono ?_); rintro e w14 ⟨rfl, h14⟩
  obtain ⟨c14, f14⟩ := bcell h14
  have z14 : w3.heap.size < w14.heap.size := by have := h14.size; omega
  go_wp2_with fail
  (with_reducible refine (fits_3_true _ _ _ _ m6 _).mono ?_); rintro e w15 ⟨rfl, h15⟩
  obtain ⟨c15, f15⟩ := bcell h15
  have z15 : w3.heap.size < w15.heap.size := by have := h15.size; omega
  go_wp2
  go_ret
  have s1 := h1.size
  have s2 := h2.size
  have s3 := h3.size
  refine ⟨rfl, ?_⟩
  refine Below.trans ?_ (h15.mono ?_)
  refine Below.trans ?_ (h14.mono ?_)
  refine Below.trans ?_ (h13.mono ?_)
  refine Below.trans ?_ (h12.mono ?_)
  refine Below.trans ?_ (h11.mono ?_)
  refine Below.trans ?_ (h10.mono ?_)
  refine Below.trans ?_ (h9.mono ?_)
  refine Below.trans ?_ (h8.mono ?_)
  refine Below.trans ?_ (h7.mono ?_)
  refine Below.trans ?_ (h6.mono ?_)
  refine Below.trans ?_ (h5.mono ?_)
  refine Below.alloc ?_ ?_ _
  refine Below.trans ?_ (h4.mono ?_)
  refine Below.alloc ?_ ?_ _
  refine Below.trans ?_ (h3.mono ?_)
  refine Below.trans ?_ (h2.mono ?_)
  exact h1
  all_goals first | omega | (simp; done) | (simp; omega)

/-! ### THE ROW's STEP -/
theorem own : ownKnob Try.prog.godebug = none := by kernel_rfl

theorem laidOut : laidOutB Try.prog = true := by kernel_rfl

set_option maxRecDepth 100000 in
theorem lifted (os : Os) (started : os.Started) (H : Type) (enc : TypeId × Value → H) :
    ReturnsInHanded {} Try.checked os 8 .any (Rows.calcNamesSpec.pre6 enc Try.prog Try.f8 Rows.calcNamesRow.domain false) (Rows.calcNamesSpec.post enc Try.prog Try.f8 false true false false) := by
  refine returnsInHanded_of_change (C := Try.checked) own started (by kernel_rfl) Try.func8
    (ChangeSpec.witness6 (enc := enc) (C := Try.checked) false ⟨#[], #[], []⟩ 8 (by kernel_rfl) (by kernel_rfl) (by kernel_rfl) (by kernel_rfl)) ?_
  intro W base args ds gs before hval0 hW hcnd _
  have hval : ∀ (j : Nat) t v, Try.f8.params[j]? = some t → args[j]? = some v → Value.okWide Try.prog W .any base t v := hval0
  have hW' := hW
  obtain ⟨p, q, hA0, hV, rfl, hfz, hnd⟩ := hW
  have hA : DataW.TrodAll enc Try.prog W 0 (fun _ => true) true Try.f8.params.toList args.toList ds p := hA0
  rw [Try.params8] at hA hval
  obtain ⟨hargs, rfl, rfl⟩ := trodAll_nil hA
  obtain rfl : args = #[] := by cases args; simp_all
  obtain ⟨rfl, rfl⟩ := trodVars_none hV
  refine (core W).mono fun e W' ⟨he, hg⟩ => ?_
  subst he
  exact ⟨_, rfl, law_post laidOut (by
    intro t ht
    simp [Try.params8] at ht) rfl rfl Try.underlying4 rfl hW' hg⟩

theorem over : Rows.calcNamesRow.holds Try.pinned (OpenSpec.ofChange Rows.calcNamesSpec) :=
  OpenClaim.holds_of_wide 8 Try.f8 rfl rfl rfl rfl rfl rfl rfl ⟨rfl, rfl, rfl, rfl, rfl⟩ rfl rfl rfl rfl rfl (by kernel_rfl) Try.func8 (by kernel_rfl)
    (of_decide_eq_true (by kernel_rfl)) (by unfold Func.isWrapper; first | (rw [if_pos (by decide +kernel)]; kernel_rfl) | (rw [if_neg (by decide +kernel)]; exact ⟨rfl, rfl⟩))
    (fun os started H enc _ => lifted os started H enc)

theorem proved : Rows.CalcNamesSaid :=
  over
#print axioms proved
end Go.Proofs.Ytjnhbchpledmdaa.calcNames

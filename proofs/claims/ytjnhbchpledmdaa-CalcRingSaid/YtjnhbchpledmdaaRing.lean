/- CalcRing: of any three numbers, sums and products answer as the laws of a ring say, and a difference goes back; the call answers true at every input. No condition. -/
import Derived.Test.YtjnhbchpledmdaaRows
import Derived.WalkKit
import Derived.ProofKit
import Derived.OpenShut
import Derived.Below
import Derived.Outline
import Derived.Test.YtjnhbchpledmdaaA
import Derived.Test.YtjnhbchpledmdaaB
namespace Go.Proofs.Ytjnhbchpledmdaa.calcRing
open Go.ChangeShapes Go.WideShapes Go.ChangeAt Go.RowKit
set_option linter.unusedVariables false      -- a walk need not use every 'w<i>' (that an integer argument fits its kind)

theorem own : ownKnob Try.prog.godebug = none := by kernel_rfl

theorem laidOut : laidOutB Try.prog = true := by kernel_rfl

set_option maxHeartbeats 1000000 in
theorem walk (a0 : Int) (a1 : Int) (a2 : Int) (w0 : (Lit.int .i64 a0).wf = true) (w1 : (Lit.int .i64 a1).wf = true) (w2 : (Lit.int .i64 a2).wf = true) (w : World) :
    Calls Try.prog 5 #[.int .i64 a0, .int .i64 a1, .int .i64 a2] w fun e w' => e = .returned (.bool true) ∧ Below w.heap.size w w' := by
  have H0 : Hid ((Lit.int .i64 a0).wf = true) := w0
  clear w0 w1 w2
  go_enter Try.func5, Try.ntmps5
  go_wp2_with fail
  (with_reducible refine (alive_any _).mono ?_); rintro e w1 ⟨rfl, h1⟩
  go_wp2_with fail
  (with_reducible refine (do_add _ _ _).mono ?_); rintro e w2 ⟨rfl, h2⟩
  go_wp2_with fail
  (with_reducible refine (do_add _ _ _).mono ?_); rintro e w3 ⟨rfl, h3⟩
  go_wp2_with fail
  (with_reducible refine (do_add _ _ _).mono ?_); rintro e w4 ⟨rfl, h4⟩
  go_wp2_with fail
  (with_reducible refine (do_mul _ _ _).mono ?_); rintro e w5 ⟨rfl, h5⟩
  go_wp2_with fail
  (with_reducible refine (do_mul _ _ _).mono ?_); rintro e w6 ⟨rfl, h6⟩
  go_wp2_with fail
  (with_reducible refine (do_mul _ _ _).mono ?_); rintro e w7 ⟨rfl, h7⟩
  go_wp2_with fail
  (with_reducible refine (do_mul _ _ _).mono ?_); rintro e w8 ⟨rfl, h8⟩
  go_wp2_with fail
  (with_reducible refine (do_mul _ _ _).mono ?_); rintro e w9 ⟨rfl, h9⟩
  go_wp2_with fail
  (with_reducible refine (is_add _ _ _ _ (ring_assoc _ _ _)).mono ?_); rintro e w10 ⟨rfl, h10⟩
  go_wp2_with fail
  (with_reducible refine (is_add _ _ _ _ (by rw [Int.add_comm])).mono ?_); rintro e w11 ⟨rfl, h11⟩
  go_wp2_with fail
  (with_reducible refine (is_mul _ _ _ _ (by rw [Int.mul_comm])).mono ?_); rintro e w12 ⟨rfl, h12⟩
  go_wp2_with fail
  (with_reducible refine (is_mul _ _ _ _ (ring_mul _ _ _)).mono ?_); rintro e w13 ⟨rfl, h13⟩
  go_wp2_with fail
  (with_reducible refine (is_add _ _ _ _ (ring_part _ _ _)).mono ?_); rintro e w14 ⟨rfl, h14⟩
  go_wp2_with fail
  (with_reducible refine (is_sub _ _ _ _ (ring_back _ _ H0.out)).mono ?_); rintro e w15 ⟨rfl, h15⟩
  go_wp2_with fail
  (with_reducible refine (is_add _ _ _ _ (ring_zero _ H0.out)).mono ?_); rintro e w16 ⟨rfl, h16⟩
  go_wp2_with fail
  (with_reducible refine (is_mul _ _ _ _ (ring_one _ H0.out)).mono ?_); rintro e w17 ⟨rfl, h17⟩
  go_wp2_with fail
  (with_reducible refine (is_mul _ _ _ _ (ring_none _)).mono ?_); rintro e w18 ⟨rfl, h18⟩
  go_wp2
  go_ret
  have s1 := h1.size
  have s2 := Nat.le_trans s1 h2.size
  have s3 := Nat.le_trans s2 h3.size
  have s4 := Nat.le_trans s3 h4.size
  have s5 := Nat.le_trans s4 h5.size
  have s6 := Nat.le_trans s5 h6.size
  have s7 := Nat.le_trans s6 h7.size
  have s8 := Nat.le_trans s7 h8.size
  have s9 := Nat.le_trans s8 h9.size
  have s10 := Nat.le_trans s9 h10.size
  have s11 := Nat.le_trans s10 h11.size
  have s12 := Nat.le_trans s11 h12.size
  have s13 := Nat.le_trans s12 h13.size
  have s14 := Nat.le_trans s13 h14.size
  have s15 := Nat.le_trans s14 h15.size
  have s16 := Nat.le_trans s15 h16.size
  have s17 := Nat.le_trans s16 h17.size
  have g1 := h1
  have g2 := g1.trans (h2.mono s1)
  have g3 := g2.trans (h3.mono s2)
  have g4 := g3.trans (h4.mono s3)
  have g5 := g4.trans (h5.mono s4)
  have g6 := g5.trans (h6.mono s5)
  have g7 := g6.trans (h7.mono s6)
  have g8 := g7.trans (h8.mono s7)
  have g9 := g8.trans (h9.mono s8)
  have g10 := g9.trans (h10.mono s9)
  have g11 := g10.trans (h11.mono s10)
  have g12 := g11.trans (h12.mono s11)
  have g13 := g12.trans (h13.mono s12)
  have g14 := g13.trans (h14.mono s13)
  have g15 := g14.trans (h15.mono s14)
  have g16 := g15.trans (h16.mono s15)
  have g17 := g16.trans (h17.mono s16)
  have g18 := g17.trans (h18.mono s17)
  exact ⟨rfl, g18⟩

/-! ### THE ROW's STEP: WRITTEN OUT: LEAVE IT -/
set_option maxRecDepth 100000 in
theorem lifted (os : Os) (started : os.Started) (H : Type) (enc : TypeId × Value → H) :
    ReturnsInHanded {} Try.checked os 5 .any (Rows.calcRingSpec.pre6 enc Try.prog Try.f5 Rows.calcRingRow.domain false) (Rows.calcRingSpec.post enc Try.prog Try.f5 false true false false) := by
  refine returnsInHanded_of_change (C := Try.checked) own started (by kernel_rfl) Try.func5
    (ChangeSpec.witness6 (enc := enc) (C := Try.checked) false ⟨#[], #[.int .i64 0, .int .i64 0, .int .i64 0], []⟩ 8 (by kernel_rfl) (by kernel_rfl) (by kernel_rfl) (by kernel_rfl)) ?_
  intro W base args ds gs before hval0 hW hcnd _
  have hval : ∀ (j : Nat) t v, Try.f5.params[j]? = some t → args[j]? = some v → Value.okWide Try.prog W .any base t v := hval0
  have hW' := hW
  obtain ⟨p, q, hA0, hV, rfl, hfz, hnd⟩ := hW
  have hA : DataW.TrodAll enc Try.prog W 0 (fun _ => true) true Try.f5.params.toList args.toList ds p := hA0
  rw [Try.params5] at hA hval
  obtain ⟨v0, vs0, d0, ds0, p0, q0, hargs, rfl, rfl, h0, r0⟩ := trodAll_cons hA
  obtain ⟨v1, vs1, d1, ds1, p1, q1, rfl, rfl, rfl, h1, r1⟩ := trodAll_cons r0
  obtain ⟨v2, vs2, d2, ds2, p2, q2, rfl, rfl, rfl, h2, r2⟩ := trodAll_cons r1
  obtain ⟨rfl, rfl, rfl⟩ := trodAll_nil r2
  obtain rfl : args = #[v0, v1, v2] := by cases args; simp_all
  obtain ⟨rfl, rfl⟩ := trodVars_none hV
  obtain ⟨a0, rfl, rfl, rfl, w0⟩ := open_int Try.underlying2 (hval 0 2 v0 rfl rfl) h0
  obtain ⟨a1, rfl, rfl, rfl, w1⟩ := open_int Try.underlying2 (hval 1 2 v1 rfl rfl) h1
  obtain ⟨a2, rfl, rfl, rfl, w2⟩ := open_int Try.underlying2 (hval 2 2 v2 rfl rfl) h2
  clear hA0 hval0
  simp only [List.append_nil] at hW'
  refine (walk a0 a1 a2 w0 w1 w2 W).mono fun e W' ⟨he, hg⟩ => ?_
  subst he
  exact ⟨_, rfl, law_post laidOut (by
    intro t ht
    simp only [Try.params5, List.mem_cons, List.not_mem_nil, or_false] at ht
    rcases ht with rfl | rfl | rfl <;> exact ⟨by kernel_rfl, of_decide_eq_true (by kernel_rfl)⟩) rfl rfl Try.underlying4 rfl hW' hg⟩

theorem over : Rows.calcRingRow.holds Try.pinned (OpenSpec.ofChange Rows.calcRingSpec) :=
  OpenClaim.holds_of_wide 5 Try.f5 rfl rfl rfl rfl rfl rfl rfl ⟨rfl, rfl, rfl, rfl, rfl⟩ rfl rfl rfl rfl rfl (by kernel_rfl) Try.func5 (by kernel_rfl)
    (of_decide_eq_true (by kernel_rfl)) (by unfold Func.isWrapper; first | (rw [if_pos (by decide +kernel)]; kernel_rfl) | (rw [if_neg (by decide +kernel)]; exact ⟨rfl, rfl⟩))
    (fun os started H enc _ => lifted os started H enc)

/-- ████ THE STATEMENT ████ -/
theorem proved : Rows.CalcRingSaid :=
  over
#print axioms proved
end Go.Proofs.Ytjnhbchpledmdaa.calcRing

/- CalcTells: which values may be, those at first, and of which kind they are, are the document's, for every value and kind; the call answers true. No condition. -/
import Derived.Test.YtjnhbchpledmdaaRows
import Derived.WalkKit
import Derived.ProofKit
import Derived.OpenShut
import Derived.Below
import Derived.Lib.SmallJoins
import Derived.Test.YtjnhbchpledmdaaB
import Derived.Test.YtjnhbchpledmdaaU
import Derived.Test.YtjnhbchpledmdaaV
namespace Go.Proofs.Ytjnhbchpledmdaa.calcTells
open Go.ChangeShapes Go.WideShapes Go.ChangeAt Go.RowKit Go.Joins
set_option linter.unusedVariables false

set_option maxHeartbeats 1000000 in
theorem core (k n b o t : Int) (ht : 0 ≤ t) (w : World) :
    Calls Try.prog 3 #[.agg #[.int .u8 k, .int .i64 n, .int .i64 b, .int .i64 o], .int .u8 t] w fun e w' => e = .returned (.bool true) ∧ Below w.heap.size w w' := by
  go_enter Try.func3, Try.ntmps3
  go_wp2_with fail
  (with_reducible refine (first_any _ ht _).mono ?_); rintro e w1 ⟨rfl, h1⟩
  obtain ⟨c1, f1⟩ := bcell h1
  have hz : w.heap.size < w1.heap.size := by have := h1.size; simp at this; omega
  go_wp2_with fail
  (with_reducible refine (rfirst_any _ ht _).mono ?_); rintro e w2 ⟨rfl, h2⟩
  obtain ⟨c2, f2⟩ := bcell h2
  have hz2 : w1.heap.size < w2.heap.size := by have := h2.size; simp at this; omega
  go_wp2_with fail
  have hz3 : w.heap.size < w2.heap.size := by omega
  refine wp_world (fun W => Below w.heap.size w W ∧ w.heap.size < W.heap.size ∧ w1.heap.size < W.heap.size ∧ w2.heap.size < W.heap.size
    ∧ W.cell? ⟨w.heap.size, 0, none⟩ = some (.int .u8 k) ∧ W.cell? ⟨w.heap.size, 1, none⟩ = some (.int .i64 n) ∧ W.cell? ⟨w.heap.size, 2, none⟩ = some (.int .i64 b) ∧ W.cell? ⟨w.heap.size, 3, none⟩ = some (.int .i64 o)
    ∧ W.cell? ⟨w1.heap.size, 0, none⟩ = some (.int .u8 (firK t)) ∧ W.cell? ⟨w1.heap.size, 1, none⟩ = some (.int .i64 0) ∧ W.cell? ⟨w1.heap.size, 2, none⟩ = some (.int .i64 0) ∧ W.cell? ⟨w1.heap.size, 3, none⟩ = some (.int .i64 0)
    ∧ W.cell? ⟨w2.heap.size, 0, none⟩ = some (.int .u8 (firK t)) ∧ W.cell? ⟨w2.heap.size, 1, none⟩ = some (.int .i64 0) ∧ W.cell? ⟨w2.heap.size, 2, none⟩ = some (.int .i64 0) ∧ W.cell? ⟨w2.heap.size, 3, none⟩ = some (.int .i64 0)) ?_ ?_
  · refine ⟨?_, by simp; omega, by simp; omega, by simp, ?_, ?_, ?_, ?_, ?_, ?_, ?_, ?_, ?_, ?_, ?_, ?_⟩
    · refine Below.alloc ?_ (by omega) _
      refine Below.trans ?_ (h2.mono (by simp; omega))
      refine Below.alloc ?_ (by omega) _
      refine Below.trans ?_ (h1.mono (by simp))
      exact (Below.refl _ _).alloc (Nat.le_refl _) _
    all_goals go_simp
  clear h1 c1 f1 h2 c2 f2 hz hz2 hz3
  rintro W ⟨hb, s0, s1, s2, q00, q01, q02, q03, q10, q11, q12, q13, q20, q21, q22, q23⟩
  have cu := upon_cell W W.heap.size
  refine wp_region_upon (by kernel_rfl) (by kernel_rfl) ?_
  repeat
    refine wpQuiet_step (fun K hK => ?_)
    go_simp
    first
      | (refine hK _ ?_; clear hK K)
      | (apply Exists.intro
         refine ⟨fun _ => ?_, hK _ ?_⟩
         (first
           | (go_at_call 11; exact calls_upon (check_any _ _ _ _ _))
           | (go_at_call 12; exact calls_upon (rcheck_any _ _ _ _ _))
           | (go_at_call 13; exact calls_upon (fits_any _ _ _ _ _ ht _))
           | (go_at_call 14; exact calls_upon (rfits_any _ _ _ _ _ _)))
         clear hK K)
  refine wpQuiet_nil ?_
  intro W' hb'
  go_wp2
  go_ret
  exact ⟨rfl, hb.trans (hb'.mono hb.size)⟩

theorem cells23 : Try.prog.cellsOf 23 = 4 := by kernel_rfl
theorem open_val {H : Type} {enc : TypeId × Value → H} {w : World} {base b0 : Nat} {spare : Nat → Bool} {held : Bool} {r : Reach} {v : Value} {d : DataW H} {p : List MemPlace}
    (hv : Value.okWide Try.prog w r b0 23 v) (h : DataW.Trod enc Try.prog w base spare held 23 v d p) :
    ∃ k n b o : Int, v = .agg #[.int .u8 k, .int .i64 n, .int .i64 b, .int .i64 o] ∧ (Lit.int .u8 k).wf = true ∧ (Lit.int .i64 n).wf = true ∧ (Lit.int .i64 b).wf = true ∧ (Lit.int .i64 o).wf = true := by
  obtain ⟨c0, c1, c2, c3, y0, y1, y2, y3, m, rfl, rfl, rfl, h0, h1, h2, h3⟩ := open_agg4 Try.underlying23 (by kernel_rfl) cells23 hv h
  obtain ⟨a, e0, _, wa⟩ := DataW.trod_int Try.underlying5 h0
  obtain ⟨b, e1, _, wb⟩ := DataW.trod_int Try.underlying2 h1
  obtain ⟨c, e2, _, wc⟩ := DataW.trod_int Try.underlying3 h2
  obtain ⟨d, e3, _, wd⟩ := DataW.trod_int Try.underlying3 h3
  simp only [List.cons.injEq, and_true] at e0 e1 e2 e3
  subst e0 e1 e2 e3
  exact ⟨a, b, c, d, rfl, wa, wb, wc, wd⟩
theorem low_u8 {a : Int} (w : (Lit.int .u8 a).wf = true) : 0 ≤ a := by
  have e1 : IntKind.u8.min = 0 := by decide
  simp only [Lit.wf, Bool.and_eq_true, decide_eq_true_eq, e1] at w
  exact w.1

/-! ### THE ROW's STEP -/
theorem own : ownKnob Try.prog.godebug = none := by kernel_rfl

theorem laidOut : laidOutB Try.prog = true := by kernel_rfl

set_option maxRecDepth 100000 in
theorem lifted (os : Os) (started : os.Started) (H : Type) (enc : TypeId × Value → H) :
    ReturnsInHanded {} Try.checked os 3 .any (Rows.calcTellsSpec.pre6 enc Try.prog Try.f3 Rows.calcTellsRow.domain false) (Rows.calcTellsSpec.post enc Try.prog Try.f3 false true false false) := by
  refine returnsInHanded_of_change (C := Try.checked) own started (by kernel_rfl) Try.func3
    (ChangeSpec.witness6 (enc := enc) (C := Try.checked) false ⟨#[], #[.agg #[.int .u8 0, .int .i64 0, .int .i64 0, .int .i64 0], .int .u8 0], []⟩ 8 (by kernel_rfl) (by kernel_rfl) (by kernel_rfl) (by kernel_rfl)) ?_
  intro W base args ds gs before hval0 hW hcnd _
  have hval : ∀ (j : Nat) t v, Try.f3.params[j]? = some t → args[j]? = some v → Value.okWide Try.prog W .any base t v := hval0
  have hW' := hW
  obtain ⟨p, q, hA0, hV, rfl, hfz, hnd⟩ := hW
  have hA : DataW.TrodAll enc Try.prog W 0 (fun _ => true) true Try.f3.params.toList args.toList ds p := hA0
  rw [Try.params3] at hA hval
  obtain ⟨v0, vs0, d0, ds0, p0, q0, hargs, rfl, rfl, h0, r0⟩ := trodAll_cons hA
  obtain ⟨v1, vs1, d1, ds1, p1, q1, rfl, rfl, rfl, h1, r1⟩ := trodAll_cons r0
  obtain ⟨rfl, rfl, rfl⟩ := trodAll_nil r1
  obtain rfl : args = #[v0, v1] := by cases args; simp_all
  obtain ⟨rfl, rfl⟩ := trodVars_none hV
  obtain ⟨k0, n0, b0, o0, rfl, kw0, nw0, bw0, ow0⟩ := open_val (hval 0 23 v0 rfl rfl) h0
  obtain ⟨a1, rfl, rfl, rfl, w1⟩ := open_int Try.underlying5 (hval 1 5 v1 rfl rfl) h1
  refine (core k0 n0 b0 o0 a1 (low_u8 w1) W).mono fun e W' ⟨he, hg⟩ => ?_
  subst he
  exact ⟨_, rfl, law_post laidOut (by
    intro t ht
    simp only [Try.params3, List.mem_cons, List.not_mem_nil, or_false] at ht
    rcases ht with rfl | rfl <;> exact ⟨by kernel_rfl, of_decide_eq_true (by kernel_rfl)⟩) rfl rfl Try.underlying4 rfl hW' hg⟩

theorem over : Rows.calcTellsRow.holds Try.pinned (OpenSpec.ofChange Rows.calcTellsSpec) :=
  OpenClaim.holds_of_wide 3 Try.f3 rfl rfl rfl rfl rfl rfl rfl ⟨rfl, rfl, rfl, rfl, rfl⟩ rfl rfl rfl rfl rfl (by kernel_rfl) Try.func3 (by kernel_rfl)
    (of_decide_eq_true (by kernel_rfl)) (by unfold Func.isWrapper; first | (rw [if_pos (by decide +kernel)]; kernel_rfl) | (rw [if_neg (by decide +kernel)]; exact ⟨rfl, rfl⟩))
    (fun os started H enc _ => lifted os started H enc)

theorem proved : Rows.CalcTellsSaid :=
  over
#print axioms proved
end Go.Proofs.Ytjnhbchpledmdaa.calcTells

/- The contracts of what asks a value of a memory: Is, is, deep, Deep; whether a memory is great. By plain functions. -/
import Derived.Test.YtmelamlngjflkaaRows
import Derived.WalkKit
import Derived.ProofKit
import Derived.OpenShut
import Derived.Below
import Derived.Outline
import Derived.LoopTactic
import Derived.Test.YtmelamlngjflkaaRep
import Derived.Test.YtmelamlngjflkaaU
import Derived.Lib.Hide
import Derived.Test.YtmelamlngjflkaaA
namespace Go.Proofs.Ytmelamlngjflkaa
open Go.ChangeShapes Go.WideShapes Go.ChangeAt Go.RowKit
set_option linter.unusedVariables false

theorem ris_no (A : Option Addr) (c len : Nat) (k n b o : Int) (h : Hid (mayB k n b o = false)) (w : World) :
    Calls Try.prog 50 #[.slice A len c, .agg #[.int .u8 k, .int .i64 n, .int .i64 b, .int .i64 o]] w fun e w' => e = .returned (.bool false) ∧ Below w.heap.size w w' := by
  go_enter Try.func50, Try.ntmps50
  go_wp2_with fail
  (with_reducible refine (may_false _ _ _ _ h _).mono ?_); rintro e w1 ⟨rfl, h1⟩
  obtain ⟨c1, f1⟩ := bcell h1
  have hz : w.heap.size < w1.heap.size := by have := h1.size; simp at this; omega
  go_wp2
  go_ret
  exact ⟨rfl, ((Below.refl _ _).alloc (Nat.le_refl _) _).trans (h1.mono (by simp))⟩

theorem ris_other (A : Option Addr) (c len : Nat) (k n b o : Int) (h : Hid (mayB k n b o = true)) (hk : ¬ k = 2) (w : World) :
    Calls Try.prog 50 #[.slice A len c, .agg #[.int .u8 k, .int .i64 n, .int .i64 b, .int .i64 o]] w fun e w' => e = .returned (.bool true) ∧ Below w.heap.size w w' := by
  have e1 : (k == 2) = false := by simp; omega
  have e2 : (k != 2) = true := by simp; omega
  clear hk
  go_enter Try.func50, Try.ntmps50
  go_wp2_with fail
  (with_reducible refine (may_true _ _ _ _ h _).mono ?_); rintro e w1 ⟨rfl, h1⟩
  obtain ⟨c1, f1⟩ := bcell h1
  have hz : w.heap.size < w1.heap.size := by have := h1.size; simp at this; omega
  go_wp2
  go_ret
  exact ⟨rfl, ((Below.refl _ _).alloc (Nat.le_refl _) _).trans (h1.mono (by simp))⟩

theorem ris_null (A : Option Addr) (c len : Nat) (n o : Int) (h : Hid (mayB 2 n 0 o = true)) (w : World) :
    Calls Try.prog 50 #[.slice A len c, .agg #[.int .u8 2, .int .i64 n, .int .i64 0, .int .i64 o]] w fun e w' => e = .returned (.bool true) ∧ Below w.heap.size w w' := by
  go_enter Try.func50, Try.ntmps50
  go_wp2_with fail
  (with_reducible refine (may_true _ _ _ _ h _).mono ?_); rintro e w1 ⟨rfl, h1⟩
  obtain ⟨c1, f1⟩ := bcell h1
  have hz : w.heap.size < w1.heap.size := by have := h1.size; simp at this; omega
  go_wp2
  go_ret
  exact ⟨rfl, ((Below.refl _ _).alloc (Nat.le_refl _) _).trans (h1.mono (by simp))⟩

theorem ris_high (A : Option Addr) (c len : Nat) (n b o : Int) (h : Hid (mayB 2 n b o = true)) (hb0 : 0 < b) (hlen : (len : Int) < b) (w : World) :
    Calls Try.prog 50 #[.slice A len c, .agg #[.int .u8 2, .int .i64 n, .int .i64 b, .int .i64 o]] w fun e w' => e = .returned (.bool false) ∧ Below w.heap.size w w' := by
  have e1 : (b == 0) = false := by simp; omega
  have e2 : decide (b ≤ (len : Int)) = false := by simp; omega
  go_enter Try.func50, Try.ntmps50
  go_wp2_with fail
  (with_reducible refine (may_true _ _ _ _ h _).mono ?_); rintro e w1 ⟨rfl, h1⟩
  obtain ⟨c1, f1⟩ := bcell h1
  have hz : w.heap.size < w1.heap.size := by have := h1.size; simp at this; omega
  go_wp2_with fail
  refine wp_world (fun W => Below w.heap.size w W ∧ w.heap.size < W.heap.size ∧ VAt W w.heap.size 0 ⟨2, n, b, o⟩) ⟨((Below.refl _ _).alloc (Nat.le_refl _) _).trans (h1.mono (by simp)), hz, by refine ⟨?_, ?_, ?_, ?_⟩ <;> go_simp⟩ ?_
  rintro W ⟨hb, hz, q0, q1, q2, q3⟩
  simp only [Nat.zero_add] at q1 q2 q3
  clear c1 f1 h1
  have cu := upon_cell W W.heap.size
  refine wp_region_upon (by kernel_rfl) (by kernel_rfl) ?_
  repeat (go_big_quiet_step (first | fail))
  refine wpQuiet_nil ?_
  intro W' hb'
  go_wp2
  go_ret
  exact ⟨rfl, hb.trans (hb'.mono hb.size)⟩

theorem ris_low (A : Option Addr) (c len : Nat) (g og : Nat) (n b o : Int) (h : Hid (mayB 2 n b o = true)) (hb0 : 0 < b) (hlen : b ≤ (len : Int)) (hmax : len ≤ 9223372036854775807) (cl cc : Nat) (hA : Option Addr) (w : World) (hg : g < w.heap.size) (hc : w.cell? ⟨g, og + (b.toNat - 1) * 5 + 4, none⟩ = some (.slice hA cl cc)) :
    Calls Try.prog 50 #[.slice (some ⟨g, og, none⟩) len c, .agg #[.int .u8 2, .int .i64 n, .int .i64 b, .int .i64 o]] w fun e w' => e = .returned (.bool (decide (o < (cl : Int)))) ∧ Below w.heap.size w w' := by
  have e1 : (b == 0) = false := by simp; omega
  have e2 : decide (b ≤ (len : Int)) = true := by simp; omega
  go_enter Try.func50, Try.ntmps50
  go_wp2_with fail
  (with_reducible refine (may_true _ _ _ _ h _).mono ?_); rintro e w1 ⟨rfl, h1⟩
  obtain ⟨c1, f1⟩ := bcell h1
  have hz : w.heap.size < w1.heap.size := by have := h1.size; simp at this; omega
  go_wp2_with fail
  refine wp_world (fun W => Below w.heap.size w W ∧ w.heap.size < W.heap.size ∧ VAt W w.heap.size 0 ⟨2, n, b, o⟩ ∧ g < W.heap.size ∧ W.cell? ⟨g, og + (b.toNat - 1) * 5 + 4, none⟩ = some (.slice hA cl cc)) ⟨((Below.refl _ _).alloc (Nat.le_refl _) _).trans (h1.mono (by simp)), hz, by refine ⟨?_, ?_, ?_, ?_⟩ <;> go_simp, by omega, by go_simp⟩ ?_
  rintro W ⟨hb, hz, ⟨q0, q1, q2, q3⟩, hgz, hcell⟩
  simp only [Nat.zero_add] at q1 q2 q3
  clear c1 f1 h1
  have cu := upon_cell W W.heap.size
  refine wp_region_upon (by kernel_rfl) (by kernel_rfl) ?_
  repeat (go_big_quiet_step (first | fail))
  refine wpQuiet_nil ?_
  intro W' hb'
  go_wp2
  go_ret
  exact ⟨rfl, hb.trans (hb'.mono hb.size)⟩

theorem is_any {m : List Blk} {v : Value} (x : Val) (w : World) (hm : BsAt w v m) :
    Calls Try.prog 41 #[v, .agg #[.int .u8 x.k, .int .i64 x.n, .int .i64 x.b, .int .i64 x.o]] w fun e w' => e = .returned (.bool (isB m x)) ∧ Below w.heap.size w w' := by
  obtain ⟨k, n, b, o⟩ := x
  have hm' := hm
  obtain ⟨A, c, rfl, hl, hx⟩ := hm'
  show Calls Try.prog 41 #[_, .agg #[.int .u8 k, .int .i64 n, .int .i64 b, .int .i64 o]] w fun e w' => e = .returned (.bool (mayB k n b o && inB m k b o)) ∧ Below w.heap.size w w'
  cases h : mayB k n b o
  · exact is_no A c _ k n b o h w
  have hm1 := mayB_true.1 h
  unfold inB
  by_cases hk : k = 2
  · subst hk
    by_cases hb : b = 0
    · subst hb
      exact is_null A c _ n o h w
    · have hb0 : 0 < b := by omega
      have e0 : (b == 0) = false := by simpa using hb
      simp only [Bool.true_and, bne_self_eq_false, Bool.false_or, e0]
      by_cases hh : (m.length : Int) < b
      · have e1 : decide (b ≤ (m.length : Int)) = false := by simpa using hh
        rw [e1]
        exact is_high A c _ n b o h hb0 hh w
      · have e1 : decide (b ≤ (m.length : Int)) = true := by simpa using hh
        rw [e1]
        have hlt : b.toNat - 1 < m.length := by omega
        obtain ⟨g, og, rfl, hg, _, _, _, _, hv, h4, h5⟩ := hm.get (List.getElem?_eq_getElem hlt)
        obtain ⟨Ai, ci, rfl, _⟩ := h5
        rw [List.getElem?_eq_getElem hlt]
        exact is_low none c _ g og n b o h hb0 (by omega) hl _ ci Ai w hg h4
  · have e1 : (k != 2) = true := by simpa using hk
    simp only [e1, Bool.true_or, Bool.and_self]
    exact is_other A c _ k n b o h hk w

theorem ris_any {m : List Blk} {v : Value} (x : Val) (w : World) (hm : BsAt w v m) :
    Calls Try.prog 50 #[v, .agg #[.int .u8 x.k, .int .i64 x.n, .int .i64 x.b, .int .i64 x.o]] w fun e w' => e = .returned (.bool (isB m x)) ∧ Below w.heap.size w w' := by
  obtain ⟨k, n, b, o⟩ := x
  have hm' := hm
  obtain ⟨A, c, rfl, hl, hx⟩ := hm'
  show Calls Try.prog 50 #[_, .agg #[.int .u8 k, .int .i64 n, .int .i64 b, .int .i64 o]] w fun e w' => e = .returned (.bool (mayB k n b o && inB m k b o)) ∧ Below w.heap.size w w'
  cases h : mayB k n b o
  · exact ris_no A c _ k n b o h w
  have hm1 := mayB_true.1 h
  unfold inB
  by_cases hk : k = 2
  · subst hk
    by_cases hb : b = 0
    · subst hb
      exact ris_null A c _ n o h w
    · have hb0 : 0 < b := by omega
      have e0 : (b == 0) = false := by simpa using hb
      simp only [Bool.true_and, bne_self_eq_false, Bool.false_or, e0]
      by_cases hh : (m.length : Int) < b
      · have e1 : decide (b ≤ (m.length : Int)) = false := by simpa using hh
        rw [e1]
        exact ris_high A c _ n b o h hb0 hh w
      · have e1 : decide (b ≤ (m.length : Int)) = true := by simpa using hh
        rw [e1]
        have hlt : b.toNat - 1 < m.length := by omega
        obtain ⟨g, og, rfl, hg, _, _, _, _, hv, h4, h5⟩ := hm.get (List.getElem?_eq_getElem hlt)
        obtain ⟨Ai, ci, rfl, _⟩ := h5
        rw [List.getElem?_eq_getElem hlt]
        exact ris_low none c _ g og n b o h hb0 (by omega) hl _ ci Ai w hg h4
  · have e1 : (k != 2) = true := by simpa using hk
    simp only [e1, Bool.true_or, Bool.and_self]
    exact ris_other A c _ k n b o h hk w

theorem deep_other (v : Value) (k n b o : Int) (hk : ¬ k = 2) (w : World) :
    Calls Try.prog 39 #[v, .agg #[.int .u8 k, .int .i64 n, .int .i64 b, .int .i64 o]] w fun e w' => e = .returned (.int .i64 0) ∧ Below w.heap.size w w' := by
  have e1 : (k == 2) = false := by simp; omega
  have e2 : (k != 2) = true := by simp; omega
  go_enter Try.func39, Try.ntmps39
  go_wp2
  go_ret
  exact ⟨rfl, (Below.refl _ _).alloc (Nat.le_refl _) _⟩

theorem deep_null (v : Value) (n o : Int) (w : World) :
    Calls Try.prog 39 #[v, .agg #[.int .u8 2, .int .i64 n, .int .i64 0, .int .i64 o]] w fun e w' => e = .returned (.int .i64 0) ∧ Below w.heap.size w w' := by
  go_enter Try.func39, Try.ntmps39
  go_wp2
  go_ret
  exact ⟨rfl, (Below.refl _ _).alloc (Nat.le_refl _) _⟩

theorem deep_low (c len g og : Nat) (n b o d : Int) (hb0 : 0 < b) (hlen : b ≤ (len : Int)) (hmax : len ≤ 9223372036854775807) (w : World) (hg : g < w.heap.size) (hc : w.cell? ⟨g, og + (b.toNat - 1) * 5 + 2, none⟩ = some (.int .i64 d)) :
    Calls Try.prog 39 #[.slice (some ⟨g, og, none⟩) len c, .agg #[.int .u8 2, .int .i64 n, .int .i64 b, .int .i64 o]] w fun e w' => e = .returned (.int .i64 d) ∧ Below w.heap.size w w' := by
  have e1 : (b == 0) = false := by simp; omega
  go_enter Try.func39, Try.ntmps39
  go_wp2
  go_ret
  exact ⟨rfl, (Below.refl _ _).alloc (Nat.le_refl _) _⟩

theorem deep_any {m : List Blk} {v : Value} (x : Val) (w : World) (hm : BsAt w v m) (hx : isB m x = true) :
    Calls Try.prog 39 #[v, .agg #[.int .u8 x.k, .int .i64 x.n, .int .i64 x.b, .int .i64 x.o]] w fun e w' => e = .returned (.int .i64 (deepB m x)) ∧ Below w.heap.size w w' := by
  obtain ⟨k, n, b, o⟩ := x
  have hm' := hm
  obtain ⟨A, c, rfl, hl, hq⟩ := hm'
  simp only [isB, Bool.and_eq_true] at hx
  have hm1 := mayB_true.1 hx.1
  have hi := hx.2
  unfold deepB
  dsimp only
  by_cases hk : k = 2
  · subst hk
    by_cases hb : b = 0
    · subst hb
      rw [if_neg (by omega)]
      exact deep_null _ n o w
    · have hb0 : 0 < b := by omega
      have e0 : (b == 0) = false := by simpa using hb
      simp only [inB, bne_self_eq_false, Bool.false_or, e0, Bool.and_eq_true, decide_eq_true_eq] at hi
      rw [if_pos ⟨rfl, hb0⟩]
      have hlt : b.toNat - 1 < m.length := by omega
      obtain ⟨g, og, rfl, hg, _, _, h2, _⟩ := hm.get (List.getElem?_eq_getElem hlt)
      simp only [List.getElem?_eq_getElem hlt]
      exact deep_low c _ g og n b o _ hb0 hi.1 hl w hg h2
  · rw [if_neg (by omega)]
    exact deep_other _ k n b o hk w

theorem rdeep_other (v : Value) (k n b o : Int) (hk : ¬ k = 2) (w : World) :
    Calls Try.prog 51 #[v, .agg #[.int .u8 k, .int .i64 n, .int .i64 b, .int .i64 o]] w fun e w' => e = .returned (.int .i64 0) ∧ Below w.heap.size w w' := by
  have e1 : (k == 2) = false := by simp; omega
  have e2 : (k != 2) = true := by simp; omega
  go_enter Try.func51, Try.ntmps51
  go_wp2
  go_ret
  exact ⟨rfl, (Below.refl _ _).alloc (Nat.le_refl _) _⟩

theorem rdeep_null (v : Value) (n o : Int) (w : World) :
    Calls Try.prog 51 #[v, .agg #[.int .u8 2, .int .i64 n, .int .i64 0, .int .i64 o]] w fun e w' => e = .returned (.int .i64 0) ∧ Below w.heap.size w w' := by
  go_enter Try.func51, Try.ntmps51
  go_wp2
  go_ret
  exact ⟨rfl, (Below.refl _ _).alloc (Nat.le_refl _) _⟩

theorem rdeep_low (c len g og : Nat) (n b o d : Int) (hb0 : 0 < b) (hlen : b ≤ (len : Int)) (hmax : len ≤ 9223372036854775807) (w : World) (hg : g < w.heap.size) (hc : w.cell? ⟨g, og + (b.toNat - 1) * 5 + 2, none⟩ = some (.int .i64 d)) :
    Calls Try.prog 51 #[.slice (some ⟨g, og, none⟩) len c, .agg #[.int .u8 2, .int .i64 n, .int .i64 b, .int .i64 o]] w fun e w' => e = .returned (.int .i64 d) ∧ Below w.heap.size w w' := by
  have e1 : (b == 0) = false := by simp; omega
  go_enter Try.func51, Try.ntmps51
  go_wp2
  go_ret
  exact ⟨rfl, (Below.refl _ _).alloc (Nat.le_refl _) _⟩

theorem rdeep_any {m : List Blk} {v : Value} (x : Val) (w : World) (hm : BsAt w v m) (hx : isB m x = true) :
    Calls Try.prog 51 #[v, .agg #[.int .u8 x.k, .int .i64 x.n, .int .i64 x.b, .int .i64 x.o]] w fun e w' => e = .returned (.int .i64 (deepB m x)) ∧ Below w.heap.size w w' := by
  obtain ⟨k, n, b, o⟩ := x
  have hm' := hm
  obtain ⟨A, c, rfl, hl, hq⟩ := hm'
  simp only [isB, Bool.and_eq_true] at hx
  have hm1 := mayB_true.1 hx.1
  have hi := hx.2
  unfold deepB
  dsimp only
  by_cases hk : k = 2
  · subst hk
    by_cases hb : b = 0
    · subst hb
      rw [if_neg (by omega)]
      exact rdeep_null _ n o w
    · have hb0 : 0 < b := by omega
      have e0 : (b == 0) = false := by simpa using hb
      simp only [inB, bne_self_eq_false, Bool.false_or, e0, Bool.and_eq_true, decide_eq_true_eq] at hi
      rw [if_pos ⟨rfl, hb0⟩]
      have hlt : b.toNat - 1 < m.length := by omega
      obtain ⟨g, og, rfl, hg, _, _, h2, _⟩ := hm.get (List.getElem?_eq_getElem hlt)
      simp only [List.getElem?_eq_getElem hlt]
      exact rdeep_low c _ g og n b o _ hb0 hi.1 hl w hg h2
  · rw [if_neg (by omega)]
    exact rdeep_other _ k n b o hk w

/-- Is a memory more than statements go through? -/
def greatB (m : List Blk) : Bool := (m.take 50).any (fun b => decide (40 < b.cells.length)) || decide (40 < m.length)

theorem great_any {m : List Blk} {v : Value} (w : World) (hm : BsAt w v m) :
    Calls Try.prog 13 #[v] w fun e w' => e = .returned (.bool (greatB m)) ∧ w = w' := by
  have hm' := hm
  obtain ⟨A, c, rfl, hl, hq⟩ := hm'
  go_enter Try.func13, Try.ntmps13
  go_wp2
  go_loop [3] (fun i => ∃ k : Nat, k ≤ m.length ∧ k ≤ 50 ∧ i = .int .i64 k ∧ Hid (∀ b ∈ m.take k, b.cells.length ≤ 40)) (fun i => m.length - (intOf i).toNat)
  case atStart => exact ⟨0, Nat.zero_le _, Nat.zero_le _, rfl, by unfold Hid; simp⟩
  case round =>
    obtain ⟨k, hk, hk5, rfl, H⟩ := hrel
    by_cases hlt : k < m.length
    · by_cases h50 : k < 50
      · obtain ⟨g, og, rfl, hg, _, _, _, _, hv, h4, h5⟩ := hm.get (List.getElem?_eq_getElem hlt)
        obtain ⟨Ai, ci, rfl, _⟩ := h5
        have HM := Lib.hid hm; clear hm
        have HQ := Lib.hid hq; clear hq
        by_cases h40 : 40 < m[k].cells.length
        · go_wp2
          go_ret
          refine ⟨ret_bool ?_, rfl⟩
          unfold greatB
          symm
          rw [Bool.or_eq_true]
          left
          rw [List.any_eq_true]
          exact ⟨m[k], by rw [List.mem_take_iff_getElem]; exact ⟨k, by omega, rfl⟩, by simpa using h40⟩
        · go_wp2
          go_round
          case rel =>
            refine ⟨k + 1, by omega, by omega, by go_num, ?_⟩
            intro b hb
            rw [List.take_succ_eq_append_getElem hlt, List.mem_append] at hb
            rcases hb with hb | hb
            · exact H.out b hb
            · simp at hb; subst hb; omega
          case measure => simp [intOf]; omega
      · have e5 : k = 50 := by omega
        subst e5
        have d1 : decide (40 < m.length) = true := by simp; omega
        go_wp2
        go_ret
        refine ⟨ret_bool ?_, rfl⟩
        unfold greatB
        have : decide (40 < m.length) = true := by simp; omega
        rw [this, Bool.or_true]
        simp only [decide_eq_true_eq]
        omega
    · have : k = m.length := by omega
      subst this
      go_wp2
      go_ret
      refine ⟨ret_bool ?_, rfl⟩
      unfold greatB
      rw [List.take_of_length_le (by omega)]
      rw [List.take_length] at H
      have : (m.any fun b => decide (40 < b.cells.length)) = false := by
        rw [List.any_eq_false]
        intro b hb
        have := H.out b hb
        simp; omega
      rw [this, Bool.false_or]
      apply Bool.eq_iff_iff.2
      simp only [decide_eq_true_eq]
      omega

end Go.Proofs.Ytmelamlngjflkaa

/- The contracts of what asks a single value: by plain functions of the value and the blocks. -/
import Derived.Test.YtmelamlngjflkaaRows
import Derived.WalkKit
import Derived.ProofKit
import Derived.OpenShut
import Derived.Below
import Derived.Outline
import Derived.LoopTactic
import Derived.Test.YtmelamlngjflkaaRep
import Derived.Test.YtmelamlngjflkaaU
namespace Go.Proofs.Ytmelamlngjflkaa
open Go.ChangeShapes Go.WideShapes Go.ChangeAt Go.RowKit
set_option linter.unusedVariables false

theorem ret_bool {a b : Bool} (h : a = b) : Ending.returned (.bool a) = .returned (.bool b) := by rw [h]
theorem bcell {W w1 : World} (hb : Below W.heap.size W w1) : (∀ b o, b < W.heap.size → w1.cell? ⟨b, o, none⟩ = W.cell? ⟨b, o, none⟩) ∧ (∀ b o, b < W.heap.size → w1.frozen? ⟨b, o, none⟩ = W.frozen? ⟨b, o, none⟩) :=
  ⟨fun b o h => hb.cell (p := ⟨b, o, none⟩) h, fun b o h => hb.frozen (p := ⟨b, o, none⟩) h⟩

def mayB (k n b o : Int) : Bool := decide (k = 1 ∧ b = 0 ∧ o = 0 ∨ k = 2 ∧ n = 0 ∧ (b = 0 ∧ o = 0 ∨ 0 < b ∧ 0 ≤ o) ∨ k = 3 ∧ b = 0 ∧ o = 0 ∧ 0 ≤ n ∧ n ≤ 8)
theorem mayB_true {k n b o : Int} : mayB k n b o = true ↔ (k = 1 ∧ b = 0 ∧ o = 0 ∨ k = 2 ∧ n = 0 ∧ (b = 0 ∧ o = 0 ∨ 0 < b ∧ 0 ≤ o) ∨ k = 3 ∧ b = 0 ∧ o = 0 ∧ 0 ≤ n ∧ n ≤ 8) := by simp [mayB]
theorem mayB_false {k n b o : Int} : mayB k n b o = false ↔ ¬ (k = 1 ∧ b = 0 ∧ o = 0 ∨ k = 2 ∧ n = 0 ∧ (b = 0 ∧ o = 0 ∨ 0 < b ∧ 0 ≤ o) ∨ k = 3 ∧ b = 0 ∧ o = 0 ∧ 0 ≤ n ∧ n ≤ 8) := by simp [mayB]

theorem may_true (k n b o : Int) (h : Hid (mayB k n b o = true)) (w : World) :
    Calls Try.prog 63 #[.agg #[.int .u8 k, .int .i64 n, .int .i64 b, .int .i64 o]] w fun e w' => e = .returned (.bool true) ∧ Below w.heap.size w w' := by
  go_enter Try.func63, Try.ntmps63
  go_wp2
  all_goals
    go_ret
    refine ⟨ret_bool ?_, (Below.refl _ _).alloc (Nat.le_refl _) _⟩
    have hm := mayB_true.1 h.out
    clear h
    first
      | rfl
      | (exfalso; omega)
      | (simp_all; done)
      | (simp_all; omega)

theorem check_true (k n b o : Int) (h : Hid (mayB k n b o = true)) (w : World) :
    Calls Try.prog 61 #[.agg #[.int .u8 k, .int .i64 n, .int .i64 b, .int .i64 o]] w fun e w' => e = .returned (.int .i64 0) ∧ Below w.heap.size w w' := by
  go_enter Try.func61, Try.ntmps61
  go_wp2
  all_goals
    go_ret
    refine ⟨?_, (Below.refl _ _).alloc (Nat.le_refl _) _⟩
    have hm := mayB_true.1 h.out
    clear h
    first
      | rfl
      | (exfalso; omega)
      | (simp_all; done)
      | (simp_all; omega)

theorem may_false (k n b o : Int) (h : Hid (mayB k n b o = false)) (w : World) :
    Calls Try.prog 63 #[.agg #[.int .u8 k, .int .i64 n, .int .i64 b, .int .i64 o]] w fun e w' => e = .returned (.bool false) ∧ Below w.heap.size w w' := by
  go_enter Try.func63, Try.ntmps63
  go_wp2
  all_goals
    go_ret
    refine ⟨ret_bool ?_, (Below.refl _ _).alloc (Nat.le_refl _) _⟩
    have hm := mayB_false.1 h.out
    clear h
    first
      | rfl
      | (exfalso; omega)
      | (simp_all; done)
      | (simp_all; omega)

theorem check_false (k n b o : Int) (h : Hid (mayB k n b o = false)) (w : World) :
    Calls Try.prog 61 #[.agg #[.int .u8 k, .int .i64 n, .int .i64 b, .int .i64 o]] w fun e w' => e = .returned (.int .i64 8) ∧ Below w.heap.size w w' := by
  go_enter Try.func61, Try.ntmps61
  go_wp2
  all_goals
    go_ret
    refine ⟨?_, (Below.refl _ _).alloc (Nat.le_refl _) _⟩
    have hm := mayB_false.1 h.out
    clear h
    first
      | rfl
      | (exfalso; omega)
      | (simp_all; done)
      | (simp_all; omega)

/-- Of a value that may be: is it one of a memory? -/
def inB (m : List Blk) (k b o : Int) : Bool := k != 2 || b == 0 || decide (b ≤ m.length) && decide (o < ((m[b.toNat - 1]?).map fun x => (x.cells.length : Int)).getD 0)
def isB (m : List Blk) (x : Val) : Bool := mayB x.k x.n x.b x.o && inB m x.k x.b x.o
def deepB (m : List Blk) (x : Val) : Int := if x.k = 2 ∧ 0 < x.b then ((m[x.b.toNat - 1]?).map (·.dep)).getD 0 else 0

theorem BsAt.get {w : World} {A : Option Addr} {n c : Nat} {m : List Blk} (h : BsAt w (.slice A n c) m) {i : Nat} {b : Blk} (hi : m[i]? = some b) : ∃ g o, A = some ⟨g, o, none⟩ ∧ g < w.heap.size ∧ BAt w g (o + i * 5) b := by
  obtain ⟨A', c', hv, _, hx⟩ := h
  injection hv with h1 _ _
  subst h1
  obtain ⟨g, o, hA, hb⟩ := hx i b hi
  exact ⟨g, o, hA, World.block_lt_of_cell? w _ hb.1, hb⟩
theorem BsAt.len {w : World} {A : Option Addr} {n c : Nat} {m : List Blk} (h : BsAt w (.slice A n c) m) : n = m.length := by
  obtain ⟨A', c', hv, _, hx⟩ := h
  injection hv
theorem VsAt.get {w : World} {A : Option Addr} {n c : Nat} {l : List Val} (h : VsAt w (.slice A n c) l) {i : Nat} {b : Val} (hi : l[i]? = some b) : ∃ g o, A = some ⟨g, o, none⟩ ∧ g < w.heap.size ∧ VAt w g (o + i * 4) b := by
  obtain ⟨A', c', hv, _, hx⟩ := h
  injection hv with h1 _ _
  subst h1
  obtain ⟨g, o, hA, hb⟩ := hx i b hi
  exact ⟨g, o, hA, World.block_lt_of_cell? w _ hb.1, hb⟩
theorem VsAt.len {w : World} {A : Option Addr} {n c : Nat} {m : List Val} (h : VsAt w (.slice A n c) m) : n = m.length := by
  obtain ⟨A', c', hv, _, hx⟩ := h
  injection hv

theorem is_no (A : Option Addr) (c len : Nat) (k n b o : Int) (h : Hid (mayB k n b o = false)) (w : World) :
    Calls Try.prog 41 #[.slice A len c, .agg #[.int .u8 k, .int .i64 n, .int .i64 b, .int .i64 o]] w fun e w' => e = .returned (.bool false) ∧ Below w.heap.size w w' := by
  go_enter Try.func41, Try.ntmps41
  go_wp2_with fail
  refine wp_world (fun W => Below w.heap.size w W ∧ w.heap.size < W.heap.size ∧ VAt W w.heap.size 0 ⟨k, n, b, o⟩) ⟨(Below.refl _ _).alloc (Nat.le_refl _) _, by simp, by simp [VAt]⟩ ?_
  rintro W ⟨hb, hz, q0, q1, q2, q3⟩
  simp only [Nat.zero_add] at q1 q2 q3
  have cu := upon_cell W W.heap.size
  refine wp_region_upon (by kernel_rfl) (by kernel_rfl) ?_
  repeat (go_big_quiet_step (first | (go_at_call 61; exact calls_upon (check_false _ _ _ _ h _))))
  refine wpQuiet_nil ?_
  intro W' hb'
  go_wp2
  go_ret
  exact ⟨rfl, hb.trans (hb'.mono hb.size)⟩

theorem is_other (A : Option Addr) (c len : Nat) (k n b o : Int) (h : Hid (mayB k n b o = true)) (hk : ¬ k = 2) (w : World) :
    Calls Try.prog 41 #[.slice A len c, .agg #[.int .u8 k, .int .i64 n, .int .i64 b, .int .i64 o]] w fun e w' => e = .returned (.bool true) ∧ Below w.heap.size w w' := by
  have e1 : (k == 2) = false := by simp; omega
  have e2 : (k != 2) = true := by simp; omega
  clear hk
  go_enter Try.func41, Try.ntmps41
  go_wp2_with fail
  refine wp_world (fun W => Below w.heap.size w W ∧ w.heap.size < W.heap.size ∧ VAt W w.heap.size 0 ⟨k, n, b, o⟩) ⟨(Below.refl _ _).alloc (Nat.le_refl _) _, by simp, by simp [VAt]⟩ ?_
  rintro W ⟨hb, hz, q0, q1, q2, q3⟩
  simp only [Nat.zero_add] at q1 q2 q3
  have cu := upon_cell W W.heap.size
  refine wp_region_upon (by kernel_rfl) (by kernel_rfl) ?_
  repeat (go_big_quiet_step (first | (go_at_call 61; exact calls_upon (check_true _ _ _ _ h _))))
  refine wpQuiet_nil ?_
  intro W' hb'
  go_wp2
  go_ret
  exact ⟨rfl, hb.trans (hb'.mono hb.size)⟩

theorem is_null (A : Option Addr) (c len : Nat) (n o : Int) (h : Hid (mayB 2 n 0 o = true)) (w : World) :
    Calls Try.prog 41 #[.slice A len c, .agg #[.int .u8 2, .int .i64 n, .int .i64 0, .int .i64 o]] w fun e w' => e = .returned (.bool true) ∧ Below w.heap.size w w' := by
  go_enter Try.func41, Try.ntmps41
  go_wp2_with fail
  refine wp_world (fun W => Below w.heap.size w W ∧ w.heap.size < W.heap.size ∧ VAt W w.heap.size 0 ⟨2, n, 0, o⟩) ⟨(Below.refl _ _).alloc (Nat.le_refl _) _, by simp, by simp [VAt]⟩ ?_
  rintro W ⟨hb, hz, q0, q1, q2, q3⟩
  simp only [Nat.zero_add] at q1 q2 q3
  have cu := upon_cell W W.heap.size
  refine wp_region_upon (by kernel_rfl) (by kernel_rfl) ?_
  repeat (go_big_quiet_step (first | (go_at_call 61; exact calls_upon (check_true _ _ _ _ h _))))
  refine wpQuiet_nil ?_
  intro W' hb'
  go_wp2
  go_ret
  exact ⟨rfl, hb.trans (hb'.mono hb.size)⟩

theorem is_high (A : Option Addr) (c len : Nat) (n b o : Int) (h : Hid (mayB 2 n b o = true)) (hb0 : 0 < b) (hlen : (len : Int) < b) (w : World) :
    Calls Try.prog 41 #[.slice A len c, .agg #[.int .u8 2, .int .i64 n, .int .i64 b, .int .i64 o]] w fun e w' => e = .returned (.bool false) ∧ Below w.heap.size w w' := by
  have e1 : (b == 0) = false := by simp; omega
  have e2 : decide (b ≤ (len : Int)) = false := by simp; omega
  go_enter Try.func41, Try.ntmps41
  go_wp2_with fail
  refine wp_world (fun W => Below w.heap.size w W ∧ w.heap.size < W.heap.size ∧ VAt W w.heap.size 0 ⟨2, n, b, o⟩) ⟨(Below.refl _ _).alloc (Nat.le_refl _) _, by simp, by simp [VAt]⟩ ?_
  rintro W ⟨hb, hz, q0, q1, q2, q3⟩
  simp only [Nat.zero_add] at q1 q2 q3
  have cu := upon_cell W W.heap.size
  refine wp_region_upon (by kernel_rfl) (by kernel_rfl) ?_
  repeat (go_big_quiet_step (first | (go_at_call 61; exact calls_upon (check_true _ _ _ _ h _))))
  refine wpQuiet_nil ?_
  intro W' hb'
  go_wp2
  go_ret
  exact ⟨rfl, hb.trans (hb'.mono hb.size)⟩

theorem is_low (A : Option Addr) (c len : Nat) (g og : Nat) (n b o : Int) (h : Hid (mayB 2 n b o = true)) (hb0 : 0 < b) (hlen : b ≤ (len : Int)) (hmax : len ≤ 9223372036854775807) (cl cc : Nat) (hA : Option Addr) (w : World) (hg : g < w.heap.size) (hc : w.cell? ⟨g, og + (b.toNat - 1) * 5 + 4, none⟩ = some (.slice hA cl cc)) :
    Calls Try.prog 41 #[.slice (some ⟨g, og, none⟩) len c, .agg #[.int .u8 2, .int .i64 n, .int .i64 b, .int .i64 o]] w fun e w' => e = .returned (.bool (decide (o < (cl : Int)))) ∧ Below w.heap.size w w' := by
  have e1 : (b == 0) = false := by simp; omega
  have e2 : decide (b ≤ (len : Int)) = true := by simp; omega
  go_enter Try.func41, Try.ntmps41
  go_wp2_with fail
  refine wp_world (fun W => Below w.heap.size w W ∧ w.heap.size < W.heap.size ∧ VAt W w.heap.size 0 ⟨2, n, b, o⟩ ∧ g < W.heap.size ∧ W.cell? ⟨g, og + (b.toNat - 1) * 5 + 4, none⟩ = some (.slice hA cl cc)) ⟨(Below.refl _ _).alloc (Nat.le_refl _) _, by simp, by simp [VAt], by simp; omega, by go_simp⟩ ?_
  rintro W ⟨hb, hz, ⟨q0, q1, q2, q3⟩, hgz, hcell⟩
  simp only [Nat.zero_add] at q1 q2 q3
  have cu := upon_cell W W.heap.size
  refine wp_region_upon (by kernel_rfl) (by kernel_rfl) ?_
  repeat (go_big_quiet_step (first | (go_at_call 61; exact calls_upon (check_true _ _ _ _ h _))))
  refine wpQuiet_nil ?_
  intro W' hb'
  go_wp2
  go_ret
  exact ⟨rfl, hb.trans (hb'.mono hb.size)⟩

end Go.Proofs.Ytmelamlngjflkaa

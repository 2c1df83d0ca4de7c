/- The contract of slices.Clone over blocks: the copy has the same headers of cells. -/
import Derived.Test.YtmelamlngjflkaaRows
import Derived.WalkKit
import Derived.ProofKit
import Derived.OpenShut
import Derived.Below
import Derived.Outline
import Derived.LoopTactic
import Derived.Test.YtmelamlngjflkaaRep
import Derived.Test.YtmelamlngjflkaaU
import Derived.Lib.Hide
import Derived.WalkSpells
import Derived.Maps.AppendAt
import Derived.Test.YtmelamlngjflkaaB
import Derived.Test.YtmelamlngjflkaaL
namespace Go.Proofs.Ytmelamlngjflkaa
open Go.ChangeShapes Go.WideShapes Go.ChangeAt Go.RowKit
set_option linter.unusedVariables false

theorem BsAt.heads0 {w : World} {v : Value} {m : List Blk} (h : BsAt w v m) : ∃ ps : List (Blk × Value), ps.map (·.1) = m ∧ (∀ p ∈ ps, VsAt w p.2 p.1.cells) ∧
    ∀ A n c, v = .slice A n c → ∀ i p, ps[i]? = some p → ∃ g o, A = some ⟨g, o, none⟩ ∧ ∀ j u, (blkCells p)[j]? = some u → w.cell? ⟨g, o + i * 5 + j, none⟩ = some u := by
  obtain ⟨A, c, rfl, _, hx⟩ := h
  have key : ∀ (l : List Blk) (s : Nat), (∀ i b, l[i]? = some b → ∃ g o, A = some ⟨g, o, none⟩ ∧ BAt w g (o + (s + i) * 5) b) →
      ∃ ps : List (Blk × Value), ps.map (·.1) = l ∧ (∀ p ∈ ps, VsAt w p.2 p.1.cells) ∧ ∀ i p, ps[i]? = some p → ∃ g o, A = some ⟨g, o, none⟩ ∧ ∀ j u, (blkCells p)[j]? = some u → w.cell? ⟨g, o + (s + i) * 5 + j, none⟩ = some u := by
    intro l
    induction l with
    | nil => intro s _; exact ⟨[], rfl, by simp, by simp⟩
    | cons b l ih =>
      intro s hl
      obtain ⟨ps, h1, h2, h3⟩ := ih (s + 1) (fun i b hi => by
        obtain ⟨g, o, hA, hb⟩ := hl (i + 1) b (by simpa using hi)
        exact ⟨g, o, hA, by rwa [show s + 1 + i = s + (i + 1) by omega]⟩)
      obtain ⟨g, o, hA, q0, q1, q2, q3, hv, q4, h5⟩ := hl 0 b rfl
      refine ⟨(b, hv) :: ps, by simp [h1], ?_, ?_⟩
      · intro p hp
        rcases List.mem_cons.1 hp with rfl | hp
        · exact h5
        · exact h2 p hp
      · intro i p hi
        cases i with
        | zero =>
          simp only [List.getElem?_cons_zero, Option.some.injEq] at hi
          subst hi
          refine ⟨g, o, hA, fun j u hu => ?_⟩
          match j, hu with
          | 0, hu => injection hu with hu; subst hu; exact q0
          | 1, hu => injection hu with hu; subst hu; exact q1
          | 2, hu => injection hu with hu; subst hu; exact q2
          | 3, hu => injection hu with hu; subst hu; exact q3
          | 4, hu => injection hu with hu; subst hu; exact q4
          | j + 5, hu => cases hu
        | succ i =>
          obtain ⟨g, o, hA, hc⟩ := h3 i p (by simpa using hi)
          exact ⟨g, o, hA, fun j u hu => by have := hc j u hu; rwa [show s + 1 + i = s + (i + 1) by omega] at this⟩
  obtain ⟨ps, h1, h2, h3⟩ := key m 0 (fun i b hi => by
    obtain ⟨g, o, hA, hb⟩ := hx i b hi
    exact ⟨g, o, hA, by rwa [Nat.zero_add]⟩)
  refine ⟨ps, h1, h2, fun A' n c' hv i p hi => ?_⟩
  injection hv with e1 _ _
  subst e1
  obtain ⟨g, o, hA, hc⟩ := h3 i p hi
  exact ⟨g, o, hA, fun j u hu => by have := hc j u hu; rwa [Nat.zero_add] at this⟩

theorem BsAt.heads {w : World} {A : Option Addr} {n c : Nat} {m : List Blk} (h : BsAt w (.slice A n c) m) : ∃ ps : List (Blk × Value), ps.map (·.1) = m ∧ (∀ p ∈ ps, VsAt w p.2 p.1.cells) ∧
    ∀ i p, ps[i]? = some p → ∃ g o, A = some ⟨g, o, none⟩ ∧ ∀ j u, (blkCells p)[j]? = some u → w.cell? ⟨g, o + i * 5 + j, none⟩ = some u := by
  obtain ⟨ps, h1, h2, h3⟩ := h.heads0
  exact ⟨ps, h1, h2, h3 A n c rfl⟩

/-- The blocks, each with its header of cells, stand at A. -/
def Heads (w : World) (A : Option Addr) (ps : List (Blk × Value)) : Prop :=
  ∀ i p, ps[i]? = some p → ∃ g o, A = some ⟨g, o, none⟩ ∧ ∀ j u, (blkCells p)[j]? = some u → w.cell? ⟨g, o + i * 5 + j, none⟩ = some u
theorem Heads.below {w w1 : World} {A : Option Addr} {ps : List (Blk × Value)} (h : Heads w A ps) (hb : Below w.heap.size w w1) : Heads w1 A ps := fun i p hi =>
  let ⟨g, o, hA, hc⟩ := h i p hi
  ⟨g, o, hA, fun j u hu => cell_below hb (hc j u hu)⟩

def CloneP (ps : List (Blk × Value)) (w : World) (e : Ending) (w' : World) : Prop :=
  ∃ v : Value, e = .returned v ∧ w'.ownsRow w.heap.size 39 5 v ps.length (ps.flatMap blkCells) ∧ Below w.heap.size w w'

theorem info39 : (Try.prog.info? 39).map (fun i => (i.zero, i.size, i.bytes)) = some (some (.agg #[(.int .i64 0), (.int .i64 0), (.int .i64 0), (.bool false), (.slice none 0 0)]), 5, 56) := by kernel_rfl
theorem info24 : (Try.prog.info? 24).map (fun i => (i.zero, i.size, i.bytes)) = some (some (.agg #[(.int .u8 0), (.int .i64 0), (.int .i64 0), (.int .i64 0)]), 4, 32) := by kernel_rfl

theorem flat_at {α : Type} {f : α → List Value} {c : Nat} (hc : 0 < c) (hf : ∀ x, (f x).length = c) {l : List α} {k : Nat} {u : Value} (h : (l.flatMap f)[k]? = some u) : ∃ i j x, k = i * c + j ∧ l[i]? = some x ∧ (f x)[j]? = some u := by
  have hk := (List.getElem?_eq_some_iff.1 h).1
  rw [flat_len hf] at hk
  have hi : k / c < l.length := Nat.div_lt_of_lt_mul (by rwa [Nat.mul_comm])
  have hj : k % c < c := Nat.mod_lt _ hc
  have e : k / c * c + k % c = k := by rw [Nat.mul_comm]; exact Nat.div_add_mod k c
  have h2 := flat_get hf l (k / c) (k % c) hj
  rw [e, h, List.getElem?_eq_getElem hi, Option.bind_some] at h2
  exact ⟨k / c, k % c, _, e.symm, List.getElem?_eq_getElem hi, h2.symm⟩
theorem add_at (g o j : Nat) : (⟨g, o, none⟩ : Addr).add j = ⟨g, o + j, none⟩ := by unfold Addr.add; split <;> simp_all
theorem blk_one (ps : List (Blk × Value)) (h : ∀ p ∈ ps, p.2.oneCell' = true) : ∀ u ∈ ps.flatMap blkCells, u.oneCell' = true := by
  intro u hu
  rw [List.mem_flatMap] at hu
  obtain ⟨p, hp, hu⟩ := hu
  simp only [blkCells, List.mem_cons, List.not_mem_nil, or_false] at hu
  rcases hu with rfl | rfl | rfl | rfl | rfl
  · rfl
  · rfl
  · rfl
  · rfl
  · exact h p hp
theorem vs_one {w : World} {v : Value} {l : List Val} (h : VsAt w v l) : v.oneCell' = true := by
  obtain ⟨A, c, rfl, _⟩ := h
  rfl

theorem clone_any {ps : List (Blk × Value)} {A : Option Addr} {c : Nat} (w : World) (hh : Heads w A ps) (ho : ∀ p ∈ ps, p.2.oneCell' = true) (hmx : ps.length ≤ 4096) : Calls Try.prog 49 #[.slice A ps.length c] w (CloneP ps w) := by
  have hcs' := Lib.hid hh; clear hh
  have HO := Lib.hid ho; clear ho
  have q22 : ∀ (w : World) (a : Option Addr) (n c n' c' : Nat), (binOp .eql 22 (.slice a n c) (.slice none n' c')).run Try.prog w = .ok (.bool a.isNone) w := fun w a n c n' c' => Lib.run_eql_slice_nil w _ _ a n c n' c' Try.underlying22
  cases A with
  | none =>
    have h0 : ps = [] := by
      cases ps with
      | nil => rfl
      | cons b m =>
        obtain ⟨g, o, e, _⟩ := hcs'.out 0 b rfl
        cases e
    subst h0
    go_enter Try.func49, Try.ntmps49
    go_wp2
    go_ret
    exact ⟨_, rfl, World.ownsRow_nil _ _ _ _, Below.refl _ _⟩
  | some ad =>
    obtain ⟨i0, hi, hzz⟩ := Option.map_eq_some_iff.1 info39
    simp only [Prod.mk.injEq] at hzz
    obtain ⟨hz0, hz1, hz2⟩ := hzz
    have HI := Lib.hid hi; clear hi
    have HZ0 := Lib.hid hz0; clear hz0
    have HZ1 := Lib.hid hz1; clear hz1
    have HZ2 := Lib.hid hz2; clear hz2
    have hown : Hid ((w.alloc (.cells #[] 39)).ownsRow w.heap.size 39 5 (.slice (some ⟨w.heap.size, 0, none⟩) 0 0) 0 []) := World.ownsRow_lit w #[] 0 (Nat.le_refl _) (by decide) rfl
    have hnews : Hid (∀ j u, (ps.flatMap blkCells)[j]? = some u → (w.alloc (.cells #[] 39)).cell? (ad.add j) = some u) := by
      intro j u hu
      obtain ⟨i, k, p, rfl, hp, hk⟩ := flat_at (by omega) blkCells_len hu
      obtain ⟨g, o, e, hc⟩ := hcs'.out i p hp
      injection e with e
      subst e
      rw [add_at, ← Nat.add_assoc]
      exact cell_below ((Below.refl _ _).alloc (Nat.le_refl _) _) (hc k u hk)
    have hone := Lib.hid (blk_one ps HO.out)
    go_enter Try.func49, Try.ntmps49
    go_wp2_with (at_builtin; refine wpList_append_own_at _ rfl _ _ 22 rfl w.heap.size 39 i0 _ 5 56 Try.underlying22 HI.out HZ0.out HZ1.out HZ2.out rfl (by decide) _ 0 [] rfl hown.out ad ps.length c (ps.flatMap blkCells) rfl ?c1 hnews.out hone.out ?c3 ?c4 ?c5 ?_)
    case c1 => rw [flat_len blkCells_len]
    case c3 => simp only [maxLen]; omega
    case c4 => omega
    case c5 => simp
    intro v' w' hown' hgrow _ _
    have HOW := Lib.hid hown'; clear hown'
    have HGR := Lib.hid hgrow; clear hgrow
    go_wp2
    go_ret
    refine ⟨v', rfl, ?_, ?_⟩
    · simpa using HOW.out
    · exact ((Below.refl _ _).alloc (Nat.le_refl _) _).grown HGR.out (by simp) (fun k hk => by
        simp [Value.ownBlock] at hk
        omega)

theorem clone_n {ps : List (Blk × Value)} {A : Option Addr} {c n : Nat} (w : World) (hn : ps.length = n) (hh : Heads w A ps) (ho : ∀ p ∈ ps, p.2.oneCell' = true) (hmx : n ≤ 4096) : Calls Try.prog 49 #[.slice A n c] w (CloneP ps w) := by
  subst hn
  exact clone_any w hh ho hmx

end Go.Proofs.Ytmelamlngjflkaa

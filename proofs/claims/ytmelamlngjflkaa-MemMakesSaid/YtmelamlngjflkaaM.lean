/- A memory of the code's own with one block more: behind an append of a block whose cells are the code's own too. -/
import Derived.Test.YtmelamlngjflkaaRows
import Derived.WalkKit
import Derived.ProofKit
import Derived.OpenShut
import Derived.Below
import Derived.Outline
import Derived.LoopTactic
import Derived.Test.YtmelamlngjflkaaRep
import Derived.Test.YtmelamlngjflkaaU
import Derived.Lib.Hide
import Derived.Deep.AppendLies
import Derived.Test.YtmelamlngjflkaaH
namespace Go.Proofs.Ytmelamlngjflkaa
open Go.ChangeShapes Go.WideShapes Go.ChangeAt Go.RowKit
set_option linter.unusedVariables false

theorem inn_own {b0 base B g : Nat} {w w' : World} {hv : Value} {cells : List Val} {row : Option Nat} (h : w.ownsRow b0 24 4 hv cells.length (cells.flatMap valCells)) (h0 : base ≤ b0) (hB : ∀ q, hv.ownBlock = some q → q < B)
    (hrow : ∀ q, row = some q → B ≤ q) (hg : w.grownBy w' row) (hBg : B ≤ g) : Inn base g w' hv cells := by
  rcases h.2 with ⟨hv0, hn⟩ | ⟨q, cap, cur, rfl, hb, hq, h1, h2, _, _⟩
  · refine ⟨none, 0, by rw [hv0, hn], by omega, by omega, fun k x hk => ?_⟩
    have := (List.getElem?_eq_some_iff.1 hk).1
    omega
  · have hqB := hB q rfl
    have hlt := (h.lt q rfl).2
    have hne : some q ≠ row := fun e => by have := hrow q e.symm; omega
    refine ⟨some ⟨q, 0, none⟩, cap, rfl, h1, Nat.le_trans h1 (by simpa [maxLen] using h2), fun k x hk => ⟨q, 0, rfl, by omega, by omega, ?_, fun j _ => ?_⟩⟩
    · have hk' := (List.getElem?_eq_some_iff.1 hk).1
      have e : ∀ j, j < 4 → w'.cell? ⟨q, 0 + k * 4 + j, none⟩ = (valCells x)[j]? := by
        intro j hj
        rw [hg.cell_far ⟨q, 0 + k * 4 + j, none⟩ hlt hne, Nat.zero_add, h.cellAt (k * 4 + j) (by omega), flat_get valCells_len _ _ _ hj, hk]
        rfl
      exact ⟨e 0 (by omega), e 1 (by omega), e 2 (by omega), e 3 (by omega)⟩
    · rw [hg.frozen_far ⟨q, 0 + k * 4 + j, none⟩ hlt hne]
      exact h.frozenAt _

theorem Inn.moved {base base' g g' : Nat} {w w' : World} {row : Option Nat} {h : Value} {l : List Val} (hi : Inn base g w h l) (hb : base' ≤ base) (hg : w.grownBy w' row) (hrow : ∀ q, row = some q → q = g) (hg' : g' = g ∨ g' = w.heap.size) : Inn base' g' w' h l := by
  obtain ⟨A, cp, hv, h1, hl, hx⟩ := hi
  refine ⟨A, cp, hv, h1, hl, fun k x hk => ?_⟩
  obtain ⟨b, o, hA, hb1, hb2, hv, hf⟩ := hx k x hk
  have hlt := World.block_lt_of_cell? w _ hv.1
  have hlt : b < w.heap.size := hlt
  have hne : some b ≠ row := fun e => hb2 (hrow b e.symm)
  have e : ∀ q, w'.cell? ⟨b, q, none⟩ = w.cell? ⟨b, q, none⟩ := fun q => hg.cell_far ⟨b, q, none⟩ hlt hne
  refine ⟨b, o, hA, by omega, by omega, ⟨(e _).trans hv.1, (e _).trans hv.2.1, (e _).trans hv.2.2.1, (e _).trans hv.2.2.2⟩, fun j hj => (hg.frozen_far ⟨b, o + k * 4 + j, none⟩ hlt hne).trans (hf j hj)⟩

theorem Inn.under {base g : Nat} {w : World} {h : Value} {l : List Val} (hi : Inn base g w h l) {bk j : Nat} (hb : bk < base) (u : Value) : Inn base g (w.setCell ⟨bk, j, none⟩ u) h l := by
  obtain ⟨A, cp, hv, h1, hl, hx⟩ := hi
  refine ⟨A, cp, hv, h1, hl, fun k x hk => ?_⟩
  obtain ⟨b, o, hA, hb1, hb2, hv, hf⟩ := hx k x hk
  have e : ∀ q, (w.setCell ⟨bk, j, none⟩ u).cell? ⟨b, q, none⟩ = w.cell? ⟨b, q, none⟩ := fun q => World.cell?_setCell_other _ _ _ _ (fun e => by injection e with e1; omega)
  exact ⟨b, o, hA, hb1, hb2, ⟨(e _).trans hv.1, (e _).trans hv.2.1, (e _).trans hv.2.2.1, (e _).trans hv.2.2.2⟩, fun j' hj => (World.frozen?_setCell _ _ _ _).trans (hf j' hj)⟩

/-- A store into a block below it turns nothing of a memory. -/
theorem Lay.under {base : Nat} {w : World} {v : Value} {m : List Blk} (h : Lay base w v m) {bk j : Nat} (hb : bk < base) (u : Value) : Lay base (w.setCell ⟨bk, j, none⟩ u) v m := by
  obtain ⟨ps, hm, ho, hi, ha⟩ := h
  refine ⟨ps, hm, ?_, fun g hg p hp => (hi g hg p hp).under hb u, ha⟩
  refine ho.kept (row := some bk) ⟨rfl, rfl, rfl, by simp [World.setCell], fun q hq hne => Below.heap_setCell _ _ _ _ (fun e => hne (by rw [e]))⟩ ?_
  cases e : v.ownBlock with
  | none => exact .inl rfl
  | some q =>
    right
    intro e2
    have := (ho.lt q e).1
    injection e2 with e2
    omega

theorem lay_push {B b0 base : Nat} {w w' : World} {v hv : Value} {ps : List (Blk × Value)} {bk : Blk} {g cap : Nat} (hB : base ≤ B) (h0 : base ≤ b0)
    (ho : w.ownsRow B 39 5 v ps.length (ps.flatMap blkCells)) (hin : ∀ g, v.ownBlock = some g → ∀ p ∈ ps, Inn B g w p.2 p.1.cells) (hap : Apart ps)
    (hrow : w'.ownsRow B 39 5 (.slice (some ⟨g, 0, none⟩) (ps.length + 1) cap) (ps.length + 1) (ps.flatMap blkCells ++ blkCells (bk, hv))) (hg : w.grownBy w' v.ownBlock) (hat : v.ownBlock = some g ∨ g = w.heap.size)
    (hn : w.ownsRow b0 24 4 hv bk.cells.length (bk.cells.flatMap valCells)) (hnB : ∀ q, hv.ownBlock = some q → q < B) : Lay base w' (.slice (some ⟨g, 0, none⟩) (ps.length + 1) cap) (ps.map (·.1) ++ [bk]) := by
  refine ⟨ps ++ [(bk, hv)], by simp, ?_, ?_, ?_⟩
  · rw [List.length_append, List.flatMap_append]
    simpa using own_lower hrow hB
  · intro g' hg' p hp
    obtain rfl : g = g' := by simpa [Value.ownBlock] using hg'
    rw [List.mem_append] at hp
    rcases hp with hp | hp
    · rcases ho.2 with ⟨rfl, h0⟩ | ⟨q, cap', cur, rfl, _⟩
      · have := List.length_eq_zero_iff.1 h0
        subst this
        cases hp
      · exact (hin q rfl p hp).moved hB hg (by simp [Value.ownBlock]) (by rcases hat with hat | hat; (exact .inl (by simpa [Value.ownBlock] using hat.symm)); exact .inr hat)
    · simp at hp
      subst hp
      exact inn_own hn h0 hnB (fun q hq => (ho.lt q hq).1) hg (hrow.lt g rfl).1
  · have hold : ∀ p ∈ ps, ∀ b o n c, p.2 = .slice (some ⟨b, o, none⟩) n c → 0 < n → B ≤ b := by
      intro p hp b o n c hp2 hn0
      rcases ho.2 with ⟨rfl, h0⟩ | ⟨q, cap', cur, rfl, _⟩
      · have := List.length_eq_zero_iff.1 h0
        subst this
        cases hp
      · obtain ⟨A, cp, hv, _, _, hx⟩ := hin q rfl p hp
        rw [hp2] at hv
        injection hv with e1 e2 _
        have hk : 0 < p.1.cells.length := by omega
        obtain ⟨b', o', hA, hb, _⟩ := hx 0 _ (List.getElem?_eq_getElem hk)
        rw [← e1] at hA
        injection hA with hA
        injection hA with hA
        omega
    have hnew : ∀ b o n c, hv = .slice (some ⟨b, o, none⟩) n c → b < B := fun b o n c e => hnB b (by rw [e]; rfl)
    intro i j p q hne hi hj b o o' n n' c c' hp2 hq2 hn0 hn0'
    by_cases h1 : i < ps.length
    · rw [List.getElem?_append_left h1] at hi
      by_cases h2 : j < ps.length
      · rw [List.getElem?_append_left h2] at hj
        exact hap i j p q hne hi hj b o o' n n' c c' hp2 hq2 hn0 hn0'
      · have hjl := (List.getElem?_eq_some_iff.1 hj).1
        simp at hjl
        obtain rfl : j = ps.length := by omega
        simp at hj
        subst hj
        have := hold p (List.mem_of_getElem? hi) b o n c hp2 hn0
        have := hnew b o' n' c' hq2
        omega
    · have hil := (List.getElem?_eq_some_iff.1 hi).1
      simp at hil
      obtain rfl : i = ps.length := by omega
      simp at hi
      subst hi
      have h2 : j < ps.length := by
        have hjl := (List.getElem?_eq_some_iff.1 hj).1
        simp at hjl
        omega
      rw [List.getElem?_append_left h2] at hj
      have := hold q (List.mem_of_getElem? hj) b o' n' c' hq2 hn0'
      have := hnew b o n c hp2
      omega

end Go.Proofs.Ytmelamlngjflkaa

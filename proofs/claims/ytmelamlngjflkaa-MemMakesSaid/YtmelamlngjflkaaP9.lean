/- The contract of the document's Made: the memory with one block more. -/
import Derived.Test.YtmelamlngjflkaaRows
import Derived.WalkKit
import Derived.ProofKit
import Derived.OpenShut
import Derived.Below
import Derived.Outline
import Derived.LoopTactic
import Derived.Test.YtmelamlngjflkaaRep
import Derived.Test.YtmelamlngjflkaaU
import Derived.Lib.Hide
import Derived.WalkSpells
import Derived.WalkLawsBesides
import Derived.RegionTactic
import Derived.BigRegion
import Derived.Deep.RegionLaw
import Derived.Deep.AppendLies
import Derived.Deep.RegionWith
import Derived.IntWalk
import Derived.Test.YtmelamlngjflkaaP8
namespace Go.Proofs.Ytmelamlngjflkaa
open Go.ChangeShapes Go.WideShapes Go.ChangeAt Go.RowKit
set_option linter.unusedVariables false

/-- A memory with one block more, by its parts: the copy lies from B on, the new block's cells below lo. -/
def Pre (lo B b0 : Nat) (w : World) (v : Value) (m : List Blk) (b : Blk) : Prop :=
  ∃ (ps : List (Blk × Value)) (hv : Value) (g cap : Nat), v = .slice (some ⟨g, 0, none⟩) (ps.length + 1) cap ∧ ps.map (·.1) = m ∧ w.ownsRow B 39 5 (.slice (some ⟨g, 0, none⟩) (ps.length + 1) cap) (ps.length + 1) (ps.flatMap blkCells ++ blkCells (b, hv)) ∧
    (∀ p ∈ ps, Inn B g w p.2 p.1.cells) ∧ Apart ps ∧ w.ownsRow b0 24 4 hv b.cells.length (b.cells.flatMap valCells) ∧ ∀ q, hv.ownBlock = some q → q < lo

theorem Pre.set {lo B b0 : Nat} {w : World} {v : Value} {m : List Blk} {b : Blk} (h : Pre lo B b0 w v m b) {bk j : Nat} (h1 : lo ≤ bk) (h2 : bk < B) (u : Value) : Pre lo B b0 (w.setCell ⟨bk, j, none⟩ u) v m b := by
  obtain ⟨ps, hv, g, cap, e1, e2, ho, hi, ha, hn, hl⟩ := h
  refine ⟨ps, hv, g, cap, e1, e2, own_far ho h2 u, fun p hp => (hi p hp).under h2 u, ha, ?_, hl⟩
  refine hn.kept (row := some bk) ⟨rfl, rfl, rfl, by simp [World.setCell], fun q hq hne => Below.heap_setCell _ _ _ _ (fun e => hne (by rw [e]))⟩ ?_
  cases e : hv.ownBlock with
  | none => exact .inl rfl
  | some q =>
    right
    intro e3
    have := hl q e
    injection e3 with e3
    omega
theorem Pre.drew {lo B b0 : Nat} {w : World} {v : Value} {m : List Blk} {b : Blk} (h : Pre lo B b0 w v m b) : Pre lo B b0 w.drew v m b := by
  obtain ⟨ps, hv, g, cap, e1, e2, ho, hi, ha, hn, hl⟩ := h
  exact ⟨ps, hv, g, cap, e1, e2, own_below ho (Below.drew (Below.refl _ _)), fun p hp => (hi p hp).below (Below.drew (Below.refl _ _)), ha, own_below hn (Below.drew (Below.refl _ _)), hl⟩

theorem Inn.lower {base base' g : Nat} {w : World} {h : Value} {l : List Val} (hi : Inn base g w h l) (hb : base' ≤ base) : Inn base' g w h l := by
  obtain ⟨A, cp, hv, h1, hl, hx⟩ := hi
  refine ⟨A, cp, hv, h1, hl, fun k x hk => ?_⟩
  obtain ⟨b, o, hA, hb1, r⟩ := hx k x hk
  exact ⟨b, o, hA, Nat.le_trans hb hb1, r⟩

theorem Pre.lay {lo B b0 : Nat} {w : World} {v : Value} {m : List Blk} {b : Blk} (h : Pre lo B b0 w v m b) (h1 : lo ≤ B) (h2 : b0 ≤ B) : Lay b0 w v (m ++ [b]) := by
  obtain ⟨ps, hv, g, cap, rfl, rfl, ho, hi, ha, hn, hl⟩ := h
  have hgB : B ≤ g := (ho.lt g rfl).1
  have hold : ∀ p ∈ ps, ∀ b o n c, p.2 = .slice (some ⟨b, o, none⟩) n c → 0 < n → B ≤ b := by
    intro p hp b o n c hp2 hn0
    obtain ⟨A, cp, hv, _, _, hx⟩ := hi p hp
    rw [hp2] at hv
    injection hv with e1 e2 _
    have hk : 0 < p.1.cells.length := by omega
    obtain ⟨b', o', hA, hb, _⟩ := hx 0 _ (List.getElem?_eq_getElem hk)
    rw [← e1] at hA
    injection hA with hA
    injection hA with hA
    omega
  have hnew : ∀ b o n c, hv = .slice (some ⟨b, o, none⟩) n c → b < B := fun b o n c e => by
    have := hl b (by rw [e]; rfl)
    omega
  refine ⟨ps ++ [(b, hv)], by simp, ?_, ?_, ?_⟩
  · rw [List.length_append, List.flatMap_append]
    simpa using own_lower ho h2
  · intro g' hg' p hp
    obtain rfl : g = g' := by simpa [Value.ownBlock] using hg'
    rw [List.mem_append] at hp
    rcases hp with hp | hp
    · exact (hi p hp).lower h2
    · simp at hp
      subst hp
      show Inn b0 g w hv b.cells
      rcases hn.2 with ⟨hv0, hz⟩ | ⟨q, cap', cur, hvq, hbq, hq, h3, h4, _, _⟩
      · refine ⟨none, 0, by rw [hv0, hz], by omega, by omega, fun k x hk => ?_⟩
        have := (List.getElem?_eq_some_iff.1 hk).1
        omega
      · have hql := hl q (by rw [hvq]; rfl)
        subst hvq
        refine ⟨some ⟨q, 0, none⟩, cap', rfl, h3, Nat.le_trans h3 (by simpa [maxLen] using h4), fun k x hk => ⟨q, 0, rfl, hbq, by omega, ?_, fun j _ => hn.frozenAt _⟩⟩
        have e : ∀ j, j < 4 → w.cell? ⟨q, 0 + k * 4 + j, none⟩ = (valCells x)[j]? := by
          intro j hj
          have hk' := (List.getElem?_eq_some_iff.1 hk).1
          rw [Nat.zero_add, hn.cellAt (k * 4 + j) (by omega), flat_get valCells_len _ _ _ hj, hk]
          rfl
        exact ⟨e 0 (by omega), e 1 (by omega), e 2 (by omega), e 3 (by omega)⟩
  · intro i j p q hne hi' hj b1 o o' n n' c c' hp2 hq2 hn0 hn0'
    by_cases h3 : i < ps.length
    · rw [List.getElem?_append_left h3] at hi'
      by_cases h4 : j < ps.length
      · rw [List.getElem?_append_left h4] at hj
        exact ha i j p q hne hi' hj b1 o o' n n' c c' hp2 hq2 hn0 hn0'
      · have hjl := (List.getElem?_eq_some_iff.1 hj).1
        simp at hjl
        obtain rfl : j = ps.length := by omega
        simp at hj
        subst hj
        have := hold p (List.mem_of_getElem? hi') b1 o n c hp2 hn0
        have := hnew b1 o' n' c' hq2
        omega
    · have hil := (List.getElem?_eq_some_iff.1 hi').1
      simp at hil
      obtain rfl : i = ps.length := by omega
      simp at hi'
      subst hi'
      have h4 : j < ps.length := by
        have hjl := (List.getElem?_eq_some_iff.1 hj).1
        simp at hjl
        omega
      rw [List.getElem?_append_left h4] at hj
      have := hold q (List.mem_of_getElem? hj) b1 o' n' c' hq2 hn0'
      have := hnew b1 o n c hp2
      omega

theorem pre_push {B lo b0 : Nat} {w w' : World} {v hv : Value} {ps : List (Blk × Value)} {bk : Blk} {g cap : Nat} (ho : w.ownsRow B 39 5 v ps.length (ps.flatMap blkCells)) (hin : ∀ g, v.ownBlock = some g → ∀ p ∈ ps, Inn B g w p.2 p.1.cells) (hap : Apart ps)
    (hrow : w'.ownsRow B 39 5 (.slice (some ⟨g, 0, none⟩) (ps.length + 1) cap) (ps.length + 1) (ps.flatMap blkCells ++ blkCells (bk, hv))) (hg : w.grownBy w' v.ownBlock) (hat : v.ownBlock = some g ∨ g = w.heap.size)
    (hn : w.ownsRow b0 24 4 hv bk.cells.length (bk.cells.flatMap valCells)) (hl : ∀ q, hv.ownBlock = some q → q < lo) (hB : lo ≤ B) : Pre lo B b0 w' (.slice (some ⟨g, 0, none⟩) (ps.length + 1) cap) (ps.map (·.1)) bk := by
  refine ⟨ps, hv, g, cap, rfl, rfl, hrow, fun p hp => ?_, hap, ?_, hl⟩
  · rcases ho.2 with ⟨rfl, h0⟩ | ⟨q, cap', cur, rfl, _⟩
    · have := List.length_eq_zero_iff.1 h0
      subst this
      cases hp
    · exact (hin q rfl p hp).moved (Nat.le_refl _) hg (by simp [Value.ownBlock]) (by rcases hat with hat | hat; (exact .inl (by simpa [Value.ownBlock] using hat.symm)); exact .inr hat)
  · refine hn.kept hg ?_
    cases e : hv.ownBlock with
    | none => exact .inl rfl
    | some q =>
      right
      intro e2
      have h1 := hl q e
      have h2 := own_base ho q e2.symm
      omega

def MadeV (b0 : Nat) (m : List Blk) (b : Blk) (w : World) (e : Ending) (w' : World) : Prop :=
  ∃ v : Value, e = .returned (.tuple #[v, .agg #[.int .u8 2, .int .i64 0, .int .i64 (m.length + 1 : Nat), .int .i64 0]]) ∧ Lay b0 w' v (m ++ [b]) ∧ Below w.heap.size w w'

set_option maxHeartbeats 4000000 in
theorem made_any {m : List Blk} {v : Value} {b : Blk} {Ah : Option Addr} {ch b0 : Nat} (w : World) (hm : BsAt w v m) (hmx : m.length < 4096) (hcx : ∀ b ∈ m, b.cells.length ≤ 40) (hn : w.ownsRow b0 24 4 (.slice Ah b.cells.length ch) b.cells.length (b.cells.flatMap valCells)) (hb0 : b0 ≤ w.heap.size) :
    Calls Try.prog 46 #[v, .agg #[.int .i64 b.site, .int .i64 b.ty, .int .i64 b.dep, .bool b.alive, .slice Ah b.cells.length ch]] w (MadeV b0 m b w) := by
  have HM := Lib.hid hm; clear hm
  have HMX := Lib.hid hmx
  have HCX := Lib.hid hcx; clear hcx
  have HN0 := Lib.hid hn
  have HLT : Hid (∀ q, (Value.slice Ah b.cells.length ch).ownBlock = some q → q < w.heap.size) := fun q hq => (hn.lt q hq).2
  clear hn
  obtain ⟨Am, cm, rfl, hml, hmq⟩ := HM.out
  clear hmq
  obtain ⟨j0, hj, hjj⟩ := Option.map_eq_some_iff.1 info39
  simp only [Prod.mk.injEq] at hjj
  obtain ⟨hj0, hj1, hj2⟩ := hjj
  have HJ := Lib.hid hj; clear hj
  have HJ0 := Lib.hid hj0; clear hj0
  have HJ1 := Lib.hid hj1; clear hj1
  have HJ2 := Lib.hid hj2; clear hj2
  go_enter Try.func46, Try.ntmps46
  go_wp2_with fail
  refine wp_world (fun W => Below w.heap.size w W ∧ w.heap.size + 1 < W.heap.size ∧ W.cell? ⟨w.heap.size, 0, none⟩ = some (.int .i64 b.site) ∧ W.cell? ⟨w.heap.size, 1, none⟩ = some (.int .i64 b.ty) ∧ W.cell? ⟨w.heap.size, 2, none⟩ = some (.int .i64 b.dep) ∧ W.cell? ⟨w.heap.size, 3, none⟩ = some (.bool b.alive) ∧ W.cell? ⟨w.heap.size, 4, none⟩ = some (.slice Ah b.cells.length ch) ∧ VAt W (w.heap.size + 1) 0 ⟨0, 0, 0, 0⟩ ∧ ∀ j, W.frozen? ⟨w.heap.size + 1, j, none⟩ = false)
    ⟨((Below.refl _ _).alloc (Nat.le_refl _) _).alloc (by simp) _, by simp, by simp, by simp, by simp, by simp, by simp, by simp [VAt], by simp⟩ ?_
  rintro W ⟨hb2, z3, q0, q1, q2, q3, q4, ⟨u0, u1, u2, u3⟩, g0⟩
  simp only [Nat.zero_add] at u1 u2 u3
  have B2 := Lib.hid hb2; clear hb2
  have HM2 := Lib.hid (HM.out.below B2.out)
  have HN : Hid (W.ownsRow b0 24 4 (.slice Ah b.cells.length ch) b.cells.length (b.cells.flatMap valCells)) := own_below HN0.out B2.out
  have HWR : Hid (IntKind.i64.wrap ((m.length : Int) + 1) = (m.length : Int) + 1) := Lib.hid (IntWalk.i64_in _ (by omega))
  go_region_law (first
    | (go_simp; go_at_call 23; refine (rtwin_any _ (HM2.out.below (by repeat (first | exact Below.refl _ _ | (with_reducible refine Below.drew ?_) | refine Below.alloc ?_ (by simp) _))) (Nat.le_of_lt HMX.out) HCX.out).mono ?_; rintro e w5 ⟨v5, rfl, hlay, h5⟩; obtain ⟨ps, hps, hoo, hin, hap⟩ := hlay; have HW : Hid (Below W.heap.size W w5) := Below.trans (by repeat (first | exact Below.refl _ _ | (with_reducible refine Below.drew ?_) | refine Below.alloc ?_ (by simp) _)) (h5.mono (by simp)); have H5 := Lib.hid h5; have HOO := Lib.hid (own_lower hoo (show W.heap.size ≤ _ by simp)); have HIN := Lib.hid (fun q hq p hp => (hin q hq p hp).lower (show W.heap.size ≤ _ by simp)); have HAP := Lib.hid hap; have HH2 : Hid (W.heap.size ≤ w5.heap.size) := Nat.le_trans (by simp) h5.size; have HPS := Lib.hid hps; have HPL : Hid (ps.length = m.length) := Lib.hid (by have := congrArg List.length hps; simpa using this); have HLN : Hid (ps.length + 1 ≤ maxLen ∧ (ps.length + 1) * 56 ≤ 140737488355328) := (by have := HPL.out; have := HMX.out; unfold Hid maxLen; omega); have q0' := cell_below HW.out q0; have q1' := cell_below HW.out q1; have q2' := cell_below HW.out q2; have q3' := cell_below HW.out q3; have q4' := cell_below HW.out q4; clear h5 hoo hin hap hps)
    | (refine step_append_lies _ rfl (.tmp 7) (.tmp 9) 22 rfl _ 39 j0 _ 5 56 rfl HJ.out HJ0.out HJ1.out HJ2.out rfl (by decide) _ _ _ (by simp [Act.eval]) HOO.out ⟨W.heap.size, 0, none⟩ 1 1 (blkCells (b, .slice Ah b.cells.length ch)) (by simp [Act.eval]) rfl (by intro j u hj; rw [add_at]; (match j, hj with | 0, hj | 1, hj | 2, hj | 3, hj | 4, hj => (injection hj with hj; subst hj; exact cell_below H5.out (by simp)) | j + 5, hj => cases hj)) (by intro u hu; simp only [blkCells, List.mem_cons, List.not_mem_nil, or_false] at hu; rcases hu with rfl | rfl | rfl | rfl | rfl <;> rfl) (by decide) HLN.out.1 HLN.out.2 HH2.out _ rfl ?_; intro g cap w6 hrow hgrow hat hg6; have BX := Lib.hid HW.out; have hne : some (w.heap.size + 1) ≠ v5.ownBlock := (fun e => by have := own_base HOO.out _ e.symm; omega); have U0 := hgrow.cell (cell_below BX.out u0) hne; have U1 := hgrow.cell (cell_below BX.out u1) hne; have U2 := hgrow.cell (cell_below BX.out u2) hne; have U3 := hgrow.cell (cell_below BX.out u3) hne; have G0 : ∀ j, w6.frozen? ⟨w.heap.size + 1, j, none⟩ = false := (fun j => (hgrow.frozen_far ⟨w.heap.size + 1, j, none⟩ (Nat.lt_of_lt_of_le z3 BX.out.size) hne).trans ((BX.out.frozen (p := ⟨w.heap.size + 1, j, none⟩) z3).trans (g0 j))); have PRE : Hid (Pre w.heap.size W.heap.size b0 w6 (.slice (some ⟨g, 0, none⟩) (ps.length + 1) cap) m b) := (by rw [← HPS.out]; exact pre_push HOO.out HIN.out HAP.out hrow hgrow hat (own_below HN.out BX.out) HLT.out (by omega)); have B6 : Hid (Below w.heap.size w w6) := (B2.out.trans (BX.out.mono (by omega))).grown hgrow (Nat.le_trans (by omega) BX.out.size) (fun q hq => by have := own_base HOO.out q hq; omega); clear hrow hgrow hat q0' q1' q2' q3' q4' hne)
    | (refine step_append_lies _ rfl (.tmp 7) (.tmp 9) 22 rfl _ 39 j0 _ 5 56 rfl HJ.out HJ0.out HJ1.out HJ2.out rfl (by decide) _ _ _ (by simp [Act.eval]) (HOO.out.alloc (.cells #[.int .i64 b.site, .int .i64 b.ty, .int .i64 b.dep, .bool b.alive, .slice Ah b.cells.length ch] 39)) ⟨w5.heap.size, 0, none⟩ 1 1 (blkCells (b, .slice Ah b.cells.length ch)) (by simp [Act.eval]) rfl (by intro j u hj; rw [add_at]; (match j, hj with | 0, hj | 1, hj | 2, hj | 3, hj | 4, hj => (injection hj with hj; subst hj; simp) | j + 5, hj => cases hj)) (by intro u hu; simp only [blkCells, List.mem_cons, List.not_mem_nil, or_false] at hu; rcases hu with rfl | rfl | rfl | rfl | rfl <;> rfl) (by decide) HLN.out.1 HLN.out.2 (Nat.le_trans HH2.out (by simp)) _ rfl ?_; intro g cap w6 hrow hgrow hat hg6; have BX := Lib.hid (HW.out.alloc HH2.out (.cells #[.int .i64 b.site, .int .i64 b.ty, .int .i64 b.dep, .bool b.alive, .slice Ah b.cells.length ch] 39)); have hne : some (w.heap.size + 1) ≠ v5.ownBlock := (fun e => by have := own_base HOO.out _ e.symm; omega); have U0 := hgrow.cell (cell_below BX.out u0) hne; have U1 := hgrow.cell (cell_below BX.out u1) hne; have U2 := hgrow.cell (cell_below BX.out u2) hne; have U3 := hgrow.cell (cell_below BX.out u3) hne; have G0 : ∀ j, w6.frozen? ⟨w.heap.size + 1, j, none⟩ = false := (fun j => (hgrow.frozen_far ⟨w.heap.size + 1, j, none⟩ (Nat.lt_of_lt_of_le z3 BX.out.size) hne).trans ((BX.out.frozen (p := ⟨w.heap.size + 1, j, none⟩) z3).trans (g0 j))); have PRE : Hid (Pre w.heap.size W.heap.size b0 w6 (.slice (some ⟨g, 0, none⟩) (ps.length + 1) cap) m b) := (by rw [← HPS.out]; exact pre_push (HOO.out.alloc (.cells #[.int .i64 b.site, .int .i64 b.ty, .int .i64 b.dep, .bool b.alive, .slice Ah b.cells.length ch] 39)) (fun q hq p hp => (HIN.out q hq p hp).below ((Below.refl _ _).alloc (Nat.le_refl _) _)) HAP.out hrow hgrow hat (own_below HN.out BX.out) HLT.out (by omega)); have B6 : Hid (Below w.heap.size w w6) := (B2.out.trans (BX.out.mono (by omega))).grown hgrow (Nat.le_trans (by omega) BX.out.size) (fun q hq => by have := own_base HOO.out q hq; omega); clear hrow hgrow hat q0' q1' q2' q3' q4' hne))
  all_goals
    clear u0 u1 u2 u3 g0 q0 q1 q2 q3 q4
    go_wp2
    refine bodyPost_ret (v := .tuple #[.slice (some ⟨g, 0, none⟩) (ps.length + 1) cap, .agg #[.int .u8 2, .int .i64 0, .int .i64 (m.length + 1 : Nat), .int .i64 0]]) (by simp [results, Try.results46, go_sem, *]; exact HWR.out) rfl ⟨.slice (some ⟨g, 0, none⟩) (ps.length + 1) cap, rfl, ?_, ?_⟩
    · refine Pre.lay (lo := w.heap.size) (B := W.heap.size) ?_ (by omega) (by omega)
      repeat (first | exact PRE.out | (with_reducible refine Pre.drew ?_) | refine Pre.set ?_ (by simp) (by first | exact z3 | (simp; omega)) _)
    · repeat (first | exact B6.out | (with_reducible refine Below.drew ?_) | refine Below.setCell ?_ (by simp) _)

end Go.Proofs.Ytmelamlngjflkaa

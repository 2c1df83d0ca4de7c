/- The contract of spoil, sharper: of all that was made behind the memory itself nothing is turned. -/
import Derived.Test.YtmelamlngjflkaaRows
import Derived.WalkKit
import Derived.ProofKit
import Derived.OpenShut
import Derived.Below
import Derived.Outline
import Derived.LoopTactic
import Derived.Test.YtmelamlngjflkaaRep
import Derived.Test.YtmelamlngjflkaaU
import Derived.Lib.Hide
import Derived.RegionTactic
import Derived.BigRegion
import Derived.Deep.RegionWith
import Derived.Test.YtmelamlngjflkaaP4
namespace Go.Proofs.Ytmelamlngjflkaa
open Go.ChangeShapes Go.WideShapes Go.ChangeAt Go.RowKit
set_option linter.unusedVariables false

/-- Nothing is turned but blocks from base on and below top. -/
structure Kept (base top : Nat) (w w' : World) : Prop where
  os : w'.os = w.os
  tape : w'.tape = w.tape
  output : w'.output = w.output
  size : w'.heap.size = w.heap.size
  block : ∀ k, k < base ∨ top ≤ k → w'.heap[k]? = w.heap[k]?
theorem Kept.refl (base top : Nat) (w : World) : Kept base top w w := ⟨rfl, rfl, rfl, rfl, fun _ _ => rfl⟩
theorem Kept.set {base top : Nat} {w w' : World} (h : Kept base top w w') {b o : Nat} (h1 : base ≤ b) (h2 : b < top) (u : Value) : Kept base top w (w'.setCell ⟨b, o, none⟩ u) :=
  ⟨h.os, h.tape, h.output, by rw [← h.size]; simp [World.setCell], fun k hk => (Below.heap_setCell _ _ _ _ (by show k ≠ b; omega)).trans (h.block k hk)⟩
theorem Kept.below {base top : Nat} {w w' : World} (h : Kept base top w w') : Below base w w' := ⟨h.os, h.tape, h.output, Nat.le_of_eq h.size.symm, fun k hk => h.block k (.inl hk)⟩
theorem Inn.kept {base top b2 g : Nat} {w w' : World} {h : Value} {l : List Val} (hi : Inn b2 g w h l) (hk : Kept base top w w') (ht : top ≤ b2) : Inn b2 g w' h l := by
  obtain ⟨A, cp, hv, h1, hl, hx⟩ := hi
  refine ⟨A, cp, hv, h1, hl, fun k x hkx => ?_⟩
  obtain ⟨b, o, hA, hb1, hb2, hv, hf⟩ := hx k x hkx
  have e : ∀ q, w'.cell? ⟨b, q, none⟩ = w.cell? ⟨b, q, none⟩ := fun q => World.cell?_of_block (w := w) (hk.block b (.inr (by omega)))
  exact ⟨b, o, hA, hb1, hb2, ⟨(e _).trans hv.1, (e _).trans hv.2.1, (e _).trans hv.2.2.1, (e _).trans hv.2.2.2⟩, fun j hj => (World.frozen?_of_block (w := w) (a := ⟨b, o + k * 4 + j, none⟩) (hk.block b (.inr (by omega)))).trans (hf j hj)⟩
theorem Lay.kept {base top b2 : Nat} {w w' : World} {v : Value} {m : List Blk} (h : Lay b2 w v m) (hk : Kept base top w w') (ht : top ≤ b2) : Lay b2 w' v m := by
  obtain ⟨ps, hm, ho, hi, ha⟩ := h
  refine ⟨ps, hm, ⟨ho.1, ?_⟩, fun g hg p hp => (hi g hg p hp).kept hk ht, ha⟩
  rcases ho.2 with h0 | ⟨g, cap, cur, hv, hb, hg, r⟩
  · exact .inl h0
  · exact .inr ⟨g, cap, cur, hv, hb, (hk.block g (.inr (by omega))).trans hg, r⟩

set_option maxHeartbeats 4000000 in
theorem spoil_in {base : Nat} {m : List Blk} {v : Value} {w0 : World} (w : World) (h0 : Lay base w0 v m) (hw : Below w0.heap.size w0 w) (hmx : m.length ≤ 4096) (hcx : ∀ b ∈ m, b.cells.length ≤ 40) : Calls Try.prog 27 #[v] w fun e w' => e = .returned (.tuple #[]) ∧ Kept base w0.heap.size w w' := by
  obtain ⟨A, c, rfl, hl⟩ := h0.len
  have H0 := Lib.hid h0
  have HM := Lib.hid (h0.below hw); clear h0
  have HCX := Lib.hid hcx; clear hcx
  have HW := Lib.hid hw; clear hw
  go_enter Try.func27, Try.ntmps27
  go_wp2_with fail
  go_loopw [2, 3] (fun i _ wr => ∃ k : Nat, k ≤ m.length ∧ i = .int .i64 k ∧ ∃ m' : List Blk, Shape m m' ∧ Lay base wr (.slice A m.length c) m' ∧ Kept base w0.heap.size w wr ∧ Hid (∀ g, A = some ⟨g, 0, none⟩ → ∀ i : Nat, wr.cell? ⟨g, i * 5 + 4, none⟩ = w.cell? ⟨g, i * 5 + 4, none⟩)) (fun i _ _ => m.length - (intOf i).toNat)
  case atStart => exact ⟨0, Nat.zero_le _, rfl, m, Shape.refl m, HM.out, Kept.refl _ _ _, fun _ _ _ => rfl⟩
  case round =>
    obtain ⟨k, hk, rfl, m1, hs1, hlay1, hb, HE⟩ := hrel
    have HB := Lib.hid hb; clear hb
    have HS1 := Lib.hid hs1; clear hs1
    by_cases hlt : k < m.length
    · have HLT := Lib.hid hlt
      obtain ⟨b, hbk⟩ : ∃ b, m[k]? = some b := ⟨_, List.getElem?_eq_getElem hlt⟩
      have hc40 := HCX.out b (List.mem_of_getElem? hbk)
      have HBK := Lib.hid hbk; clear hbk
      obtain ⟨g, cap, ps, e, _, hbg, hg, _, _, _⟩ := hlay1.form (by rw [HS1.out.1]; omega)
      injection e with e1 _ e3
      subst e1 e3
      have hg0 : g < w0.heap.size := by
        obtain ⟨_, _, _, _, _, _, h⟩ := H0.out.head HBK.out
        exact h
      have HL1 := Lib.hid hlay1; clear hlay1
      obtain ⟨wo, rfl⟩ : ∃ wo : World, wo = wr := ⟨_, rfl⟩
      go_wp2_with fail
      go_loopw [3] (fun j w2 => ∃ n : Nat, n ≤ b.cells.length ∧ j = .int .i64 n ∧ ∃ m2 : List Blk, Shape m m2 ∧ Lay base w2 (.slice (some ⟨g, 0, none⟩) m.length c) m2 ∧ Kept base w0.heap.size w w2 ∧ Hid (∀ i : Nat, w2.cell? ⟨g, i * 5 + 4, none⟩ = w.cell? ⟨g, i * 5 + 4, none⟩)) (fun j _ => b.cells.length - (intOf j).toNat)
      case atStart => exact ⟨0, Nat.zero_le _, rfl, m1, HS1.out, HL1.out, HB.out, HE.out g rfl⟩
      case round =>
        obtain ⟨n, hn, rfl, m2, hs2, hlay2, hb2, HE2⟩ := hrel
        have HB2 := Lib.hid hb2; clear hb2
        have HS2 := Lib.hid hs2; clear hs2
        obtain ⟨b2, hb2, hl2, _⟩ := HS2.out.2 k b HBK.out
        have HBK2 := Lib.hid hb2
        obtain ⟨q0, _, _, _, hf, _, hgw⟩ := hlay2.head hb2
        obtain ⟨g3, o3, A3, c3, e3, _, _, _, _, _, q4, h5⟩ := hlay2.reads.look hb2
        injection e3 with e3
        injection e3 with e4 e5
        subst e4 e5
        simp only [Nat.zero_add] at q4
        rw [hl2] at q4
        by_cases hnl : n < b.cells.length
        · have HNL := Lib.hid hnl
          obtain ⟨x, hxn⟩ : ∃ x, b2.cells[n]? = some x := ⟨_, List.getElem?_eq_getElem (by omega)⟩
          obtain ⟨bb, ob, cb, hcell, hbb, hbg2, hbs, hva, hfz⟩ := hlay2.at hb2 hxn
          rw [hl2] at hcell
          rw [q4] at hcell
          injection hcell with hcell
          injection hcell with e6 _ e7
          subst e6 e7
          have hbt : bb < w0.heap.size := by
            obtain ⟨y, hy⟩ : ∃ y, b.cells[n]? = some y := ⟨_, List.getElem?_eq_getElem hnl⟩
            obtain ⟨b', o', c', h1, _, _, h2, _⟩ := H0.out.at HBK.out hy
            have h3 := cell_below HW.out h1
            rw [← HE2.out k, q4] at h3
            injection h3 with h3
            injection h3 with h3
            injection h3 with h3
            injection h3 with h3
            omega
          have HL2 := Lib.hid hlay2; clear hlay2
          have HXN := Lib.hid hxn; clear hxn
          have t0 := hva.1
          have ft : wr.frozen? ⟨bb, ob + n * 4, none⟩ = false := hfz 0 (by omega)
          have HQ4 := Lib.hid q4
          clear hva hfz hb2 h5 hf q0
          go_wp2
          go_roundw
          case rel =>
            refine ⟨n + 1, HNL.out, by go_num, _, ?_, HL2.out.cell HBK2.out HXN.out (x' := ⟨9, x.n, x.b, x.o⟩) HQ4.out (j := 0) (by omega) (u := .int .u8 9) rfl, HB2.out.set hbb hbt _, fun i => ?_⟩
            · exact HS2.out.trans (shape_set HBK2.out (by simp) rfl)
            · rw [World.cell?_setCell_other _ _ _ _ (fun e => hbg2 (by injection e))]
              exact HE2.out i
          case measure => have := HNL.out; simp [intOf]; omega
        · have : n = b.cells.length := by omega
          subst this
          have HL2 := Lib.hid hlay2; clear hlay2
          have ff := hf (k * 5)
          clear hb2 h5 hf
          go_wp2
          go_roundw
          case rel =>
            refine ⟨k + 1, HLT.out, by go_num, m2.set k { b2 with site := -7 }, HS2.out.trans (shape_set HBK2.out rfl rfl), ?_, HB2.out.set hbg hg0 _, fun g' e i => ?_⟩
            · exact HL2.out.field HBK2.out (b' := { b2 with site := -7 }) rfl (j := 0) (by omega) (u := .int .i64 (-7)) (fun _ => rfl)
            · injection e with e
              injection e with e
              subst e
              rw [World.cell?_setCell_other _ _ _ _ (fun e => by injection e with _ e2; omega)]
              exact HE2.out i
          case measure => have := HLT.out; simp [intOf]; omega
    · have : k = m.length := by omega
      subst this
      go_wp2
      go_end0
      exact ⟨rfl, HB.out⟩

end Go.Proofs.Ytmelamlngjflkaa

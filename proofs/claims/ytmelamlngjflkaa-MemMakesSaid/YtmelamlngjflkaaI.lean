/- The contract of mem.Twin: the walk: what it answers is the same memory, in blocks of its own. -/
import Derived.Test.YtmelamlngjflkaaRows
import Derived.WalkKit
import Derived.ProofKit
import Derived.OpenShut
import Derived.Below
import Derived.Outline
import Derived.LoopTactic
import Derived.Test.YtmelamlngjflkaaRep
import Derived.Test.YtmelamlngjflkaaU
import Derived.Lib.Hide
import Derived.WalkSpells
import Derived.RegionTactic
import Derived.Deep.RegionWith
import Derived.Test.YtmelamlngjflkaaH
namespace Go.Proofs.Ytmelamlngjflkaa
open Go.ChangeShapes Go.WideShapes Go.ChangeAt Go.RowKit
set_option linter.unusedVariables false

theorem size24 : (Try.prog.info? 24).map (·.size) = some 4 := by kernel_rfl
theorem made_size (z : Array Value) (n : Nat) : (madeCells z n).size = n := by simp [madeCells]
def TwinP (m : List Blk) (w : World) (e : Ending) (w' : World) : Prop := ∃ v : Value, e = .returned v ∧ Lay w.heap.size w' v m ∧ Below w.heap.size w w'
theorem val_one (l : List Val) : ∀ u ∈ l.flatMap valCells, u.oneCell' = true := by
  intro u hu
  rw [List.mem_flatMap] at hu
  obtain ⟨p, _, hu⟩ := hu
  simp only [valCells, List.mem_cons, List.not_mem_nil, or_false] at hu
  rcases hu with rfl | rfl | rfl | rfl <;> rfl

set_option maxHeartbeats 4000000 in
theorem twin_any {m : List Blk} {v : Value} (w : World) (hm : BsAt w v m) (hmx : m.length ≤ 4096) (hcx : ∀ b ∈ m, b.cells.length ≤ 40) : Calls Try.prog 28 #[v] w (TwinP m w) := by
  have HM := Lib.hid hm; clear hm
  have HCX := Lib.hid hcx; clear hcx
  have hm' := HM.out
  obtain ⟨A, c, rfl, hl, hq⟩ := hm'
  clear hq
  obtain ⟨ps, hps, hvs, hheads⟩ := HM.out.heads
  have hlp : ps.length = m.length := by rw [← hps, List.length_map]
  have HPS := Lib.hid hps; clear hps
  have HVS := Lib.hid hvs; clear hvs
  have HHD : Hid (Heads w A ps) := hheads
  clear hheads
  have HLP := Lib.hid hlp; clear hlp
  obtain ⟨i0, hi, hzz⟩ := Option.map_eq_some_iff.1 info24
  simp only [Prod.mk.injEq] at hzz
  obtain ⟨hz0, hz1, hz2⟩ := hzz
  have HMK := Lib.hid (fun (n : Nat) (hn : n ≤ 200000) (W : World) => run_make4 (P := Try.prog) 37 24 i0 _ Try.underlying37 hi hz0 hz2 hz1 n hn W)
  clear hi hz0 hz1 hz2
  go_enter Try.func28, Try.ntmps28
  go_wp2
  go_loopw [3, 5, 12] (fun s _ i wr => ∃ k : Nat, k ≤ m.length ∧ i = .int .i64 k ∧ s = .int .i64 (sumL m k) ∧ Below w.heap.size w wr) (fun _ _ i _ => m.length - (intOf i).toNat)
  case atStart => exact ⟨0, Nat.zero_le _, rfl, rfl, Below.refl _ _⟩
  case round =>
    obtain ⟨k, hk, rfl, rfl, hb⟩ := hrel
    have HB := Lib.hid hb; clear hb
    have hs := sum_le HCX.out k hk
    by_cases hlt : k < m.length
    · obtain ⟨g, og, rfl, hg, q0, q1, q2, q3, hv, q4, h5⟩ := HM.out.get (List.getElem?_eq_getElem hlt)
      obtain ⟨Ai, ci, rfl, hl5, hx5⟩ := h5
      clear hx5
      have r0 := cell_below HB.out q0
      have r1 := cell_below HB.out q1
      have r2 := cell_below HB.out q2
      have r3 := cell_below HB.out q3
      have r4 := cell_below HB.out q4
      have hgr : g < wr.heap.size := Nat.lt_of_lt_of_le hg HB.out.size
      clear q0 q1 q2 q3 q4
      have hc40 := HCX.out m[k] (List.getElem_mem hlt)
      have HS := Lib.hid (sum_succ hlt)
      go_wp2
      go_roundw
      case rel => exact ⟨k + 1, by omega, by go_num, by rw [HS.out]; go_num, HB.out.alloc HB.out.size _⟩
      case measure => simp [intOf]; omega
    · have : k = m.length := by omega
      subst this
      clear hk hlt
      have hmk := HMK.out (sumL m m.length) (by omega)
      go_wp2
      refine wp_region_leaves (fun a a' W => ∃ (vv : Value) (h : Nat), W.ownsRow w.heap.size 39 5 vv ps.length (ps.flatMap blkCells) ∧ Below w.heap.size w W
        ∧ w.heap.size ≤ h ∧ W.heap[h]? = some (.cells (madeCells #[.int .u8 0, .int .i64 0, .int .i64 0, .int .i64 0] (sumL m m.length * 4)) 24 (0, 0))
        ∧ a' = (((((a.put (some 22) (.slice A m.length c)).put (some 23) vv).put (some 24) (.int .i64 (sumL m m.length))).put (some 25) (.slice (some ⟨h, 0, none⟩) (sumL m m.length) (sumL m m.length))).put (some 6) vv).put (some 7) (.slice (some ⟨h, 0, none⟩) (sumL m m.length) (sumL m m.length))) ?_ ?_
      · have HHB : Hid (Heads wr A ps) := HHD.out.below HB.out
        go_region_with (go_at_call 49; refine (clone_n _ HLP.out (HHB.out.below (by repeat (first | exact Below.refl _ _ | refine Below.alloc ?_ (by simp) _ | refine Below.drew ?_))) (fun p hp => vs_one (HVS.out p hp)) hmx).mono ?_; rintro e w1 ⟨v1, rfl, h2, h4⟩)
        · have e1 := HB.out.size
          have b1 : Below w.heap.size w w1 := HB.out.drew.trans (h4.mono e1)
          exact ⟨v1, w1.heap.size, own_lower (h2.alloc _) e1, b1.alloc b1.size _, b1.size, heap_alloc_at _ _, rfl⟩
        · have e1 := HB.out.size
          have b0 : Below w.heap.size w (wr.alloc (.cells (madeCells #[.int .u8 0, .int .i64 0, .int .i64 0, .int .i64 0] (sumL m m.length * 4)) 24)).drew := (HB.out.alloc e1 _).drew
          have b1 : Below w.heap.size w w1 := b0.trans (h4.mono b0.size)
          refine ⟨v1, wr.heap.size, own_lower h2 b0.size, b1, e1, ?_, rfl⟩
          rw [h4.block wr.heap.size (by simp)]
          exact heap_alloc_at wr _
      · rintro a' W ⟨vv, h, hown, hbW, hbh, hh, rfl⟩
        simp only [Act.put, List.setIfInBounds_toArray, List.set_cons_zero, List.set_cons_succ]
        obtain ⟨A2, c2, rfl⟩ : ∃ A2 c2, vv = .slice A2 ps.length c2 := by
          rcases hown.2 with ⟨hv, hn⟩ | ⟨g, cap, cur, hv, _⟩
          · exact ⟨none, 0, by rw [hv, hn]⟩
          · exact ⟨_, cap, hv⟩
        rw [HLP.out] at hown ⊢
        have T0 : TInv w.heap.size h w A2 c2 ps m 0 W (.slice (some ⟨h, 0, none⟩) (sumL m m.length) (sumL m m.length)) :=
          ⟨ps, 0, _, HPS.out, hown, by simp [sumL], by simp [sumL], hh, made_size _ _, fun _ _ _ h => by omega, fun _ _ => rfl, fun _ _ _ h => by omega, hbW⟩
        have HT0 := Lib.hid T0; clear T0
        clear hmk hown hh hbW HB
        go_wp2
        go_loopw [7, 8, 9, 28] (fun all _ _ i wr => ∃ k : Nat, k ≤ m.length ∧ i = .int .i64 k ∧ TInv w.heap.size h w A2 c2 ps m k wr all) (fun _ _ _ i _ => m.length - (intOf i).toNat)
        case atStart => exact ⟨0, Nat.zero_le _, rfl, HT0.out⟩
        case round =>
          obtain ⟨k, hk, rfl, ht⟩ := hrel
          by_cases hlt : k < m.length
          · obtain ⟨p, hp⟩ : ∃ p, ps[k]? = some p := ⟨_, List.getElem?_eq_getElem (by rw [HLP.out]; exact hlt)⟩
            obtain ⟨g, o, rfl, hbg, hgh, hgr, hhr, r4, f4, hmk, hall, hoo, fh, ch⟩ := ht.head hlt hp
            subst hall
            obtain ⟨As, cs, hp2, hl5, hsrc⟩ := HVS.out p (List.mem_of_getElem? hp)
            rw [hp2] at r4
            have hsum := sum_succ hlt
            rw [(List.getElem?_eq_some_iff.1 hmk).2] at hsum
            have hmono := sum_mono (m := m) (i := k + 1) (j := m.length) (by omega) (Nat.le_refl _)
            obtain ⟨R, hR⟩ : ∃ R, R = sumL m m.length - sumL m k := ⟨_, rfl⟩
            rw [← hR] at ht hoo ⊢
            have hle : p.1.cells.length ≤ R := by omega
            have hbw : Below w.heap.size w wr := by
              obtain ⟨_, _, _, _, _, _, _, _, _, _, _, _, hb⟩ := ht
              exact hb
            have hR2 : R ≤ 200000 := by omega
            have HT := Lib.hid ht; clear ht
            have C1 : Hid (0 < p.1.cells.length → ∃ a, As = some a ∧ ∀ j v, (p.1.cells.flatMap valCells)[j]? = some v → wr.cell? (a.add j) = some v) := by
              intro h0
              obtain ⟨g1, o1, e1, _⟩ := hsrc 0 _ (List.getElem?_eq_getElem h0)
              refine ⟨⟨g1, o1, none⟩, e1, fun j v hj => ?_⟩
              rw [add_at]
              refine cell_below hbw (cells_vat (fun q x hq => ?_) j v hj)
              obtain ⟨g2, o2, e2, hv⟩ := hsrc q x hq
              rw [e1] at e2
              injection e2 with e2
              injection e2 with e3 e4
              subst e3 e4
              exact hv
            have C2 : Hid (∀ j, j < (p.1.cells.flatMap valCells).length → (wr.cell? ⟨h, o + j, none⟩).isSome = true) := by
              intro j hj
              rw [flat_len valCells_len] at hj
              have := hoo (by omega)
              exact ch _ (by omega)
            have C3 : Hid (∀ j, j < (p.1.cells.flatMap valCells).length → wr.frozen? ⟨h, o + j, none⟩ = false) := fun j _ => fh _
            have C4 := Lib.hid (val_one p.1.cells)
            have C5 : Hid ((p.1.cells.flatMap valCells).length = p.1.cells.length * 4) := flat_len valCells_len _
            have HR := Lib.hid hR; clear hR
            have HOO := Lib.hid hoo; clear hoo
            have HP := Lib.hid hp; clear hp
            have HP2 := Lib.hid hp2; clear hp2
            have HMK2 := Lib.hid hmk; clear hmk
            have HSUM := Lib.hid hsum; clear hsum
            have HF4 := Lib.hid f4
            clear fh ch hsrc hmono hbw f4
            go_wp2_with (with_reducible refine wpList_copy4 rfl (.tmp 31) (.tmp 36) 37 37 rfl 24 Try.underlying37 size24 h o R R As p.1.cells.length cs rfl rfl hle (p.1.cells.flatMap valCells) C5.out C1.out C2.out C3.out C4.out ?_)
            have f5 : ∀ j, (wr.setCells h o (p.1.cells.flatMap valCells)).frozen? ⟨g, j, none⟩ = false := fun j => (World.frozen?_setCells _ _ _ _ _).trans (HF4.out j)
            have r5 : (wr.setCells h o (p.1.cells.flatMap valCells)).cell? ⟨g, k * 5 + 4, none⟩ = some (.slice As p.1.cells.length cs) := (World.cell?_setCells_out _ _ _ _ _ (fun e => absurd e hgh)).trans r4
            refine wp_region_leaves (fun a a' W' => W' = ((wr.setCells h o (p.1.cells.flatMap valCells)).drew.setCell ⟨g, k * 5 + 4, none⟩ (.slice (some ⟨h, o, none⟩) p.1.cells.length p.1.cells.length)) ∧
              ∃ o', (0 < R - p.1.cells.length → o' = o + p.1.cells.length * 4) ∧ a' = (((((((((((((a.put (some 38) (.slice (some ⟨g, 0, none⟩) m.length c2)).put (some 39) (.int .i64 k)).put (some 40) (.slice (some ⟨h, o, none⟩) R R)).put (some 41) (.int .i64 p.1.cells.length)).put (some 42) (.int .i64 p.1.cells.length)).put (some 43) (.slice (some ⟨h, o, none⟩) p.1.cells.length p.1.cells.length)).put (some 44) (.slice (some ⟨h, o, none⟩) R R)).put (some 45) (.int .i64 p.1.cells.length)).put (some 46) (.slice (some ⟨h, o', none⟩) (R - p.1.cells.length) (R - p.1.cells.length))).put (some 47) (.pointer (some ⟨g, k * 5, none⟩))).put (some 48) (.pointer (some ⟨g, k * 5 + 4, none⟩))).put (some 7) (.slice (some ⟨h, o', none⟩) (R - p.1.cells.length) (R - p.1.cells.length))))) ?_ ?_
            · clear r4 hgr hhr
              by_cases hend : R = p.1.cells.length
              · subst hend
                go_region
                exact ⟨rfl, o, fun h => by omega, by simp [Act.put]⟩
              · go_region
                exact ⟨rfl, o + p.1.cells.length * 4, fun _ => rfl, by simp [Act.put]⟩
            · rintro a' W' ⟨rfl, o', ho', rfl⟩
              simp only [Act.put, List.setIfInBounds_toArray, List.set_cons_zero, List.set_cons_succ]
              clear r4 r5 f5 hgr hhr
              go_wp2
              go_roundw
              case rel =>
                refine ⟨k + 1, by omega, by go_num, ?_⟩
                have e := HSUM.out
                have e2 := HR.out
                have e3 : R - p.1.cells.length = sumL m m.length - sumL m (k + 1) := by omega
                exact HT.out.step (Nat.le_refl _) hbh hgh HMK2.out ⟨o', by rw [e3], by rw [← e3]; exact ho'⟩
              case measure => simp [intOf]; omega
          · have : k = m.length := by omega
            subst this
            have HT := Lib.hid ht; clear ht
            go_wp2
            go_ret
            refine ⟨_, rfl, HT.out.lay hbh HCX.out, ?_⟩
            obtain ⟨_, _, _, _, _, _, _, _, _, _, _, _, hb⟩ := HT.out
            exact hb

end Go.Proofs.Ytmelamlngjflkaa

/- The contracts of the document's All, Head and Heads. -/
import Derived.Test.YtkmbjpgpkgeiaaaRows
import Derived.WalkKit
import Derived.ProofKit
import Derived.OpenShut
import Derived.Below
import Derived.Outline
import Derived.LoopTactic
import Derived.Lib.Hide
import Derived.WalkSpells
import Derived.RegionTactic
import Derived.BigRegion
import Derived.Deep.QuietTactic
import Derived.BigQuiet
import Derived.Deep.RegionWith
import Derived.Deep.AppendLies
import Derived.Test.YtkmbjpgpkgeiaaaF1
namespace Go.Proofs.Ytkmbjpgpkgeiaaa
open Go.ChangeShapes Go.WideShapes Go.ChangeAt Go.RowKit
set_option linter.unusedVariables false

/-- Who comes to whom, as it is read. -/
def AllAt (to : Nat → List Nat) (N : Nat) (w : World) (v : Value) : Prop :=
  ∃ A c, v = .slice A N c ∧ ∀ a, a < N → ∃ (g o g' : Nat) (B : Nat → Bool), A = some ⟨g, o, none⟩ ∧ w.cell? ⟨g, o + a, none⟩ = some (.slice (some ⟨g', 0, none⟩) N N) ∧ (∀ b, b < N → w.cell? ⟨g', b, none⟩ = some (.bool (B b))) ∧ ∀ x, x < N → (B x = true ↔ Reach to a x)
theorem AllAt.below {to : Nat → List Nat} {N : Nat} {w w1 : World} {v : Value} (h : AllAt to N w v) (hb : Below w.heap.size w w1) : AllAt to N w1 v := by
  obtain ⟨A, c, hv, hx⟩ := h
  refine ⟨A, c, hv, fun a ha => ?_⟩
  obtain ⟨g, o, g', B, h1, h2, h3, h4⟩ := hx a ha
  exact ⟨g, o, g', B, h1, cell_below hb h2, fun b hb' => cell_below hb (h3 b hb'), h4⟩
abbrev hdr (N g : Nat) : Value := .slice (some ⟨g, 0, none⟩) N N
/-- The rows that are laid so far. -/
def Laid (to : Nat → List Nat) (N base : Nat) (w : World) (v : Value) (gs : List Nat) : Prop :=
  w.ownsRow base 29 1 v gs.length (gs.map (hdr N)) ∧ ∀ (i g : Nat), gs[i]? = some g → v.ownBlock ≠ some g ∧ ∃ B, Row w g 4 (bvL N B) ∧ ∀ x, x < N → (B x = true ↔ Reach to i x)
theorem Laid.step {to : Nat → List Nat} {N base g cap : Nat} {w w1 W w6 : World} {v : Value} {gs : List Nat} {B : Nat → Bool} (h : Laid to N base w v gs) (h1 : Below w.heap.size w w1) (hr : Row w1 w.heap.size 4 (bvL N B)) (hB : ∀ x, x < N → (B x = true ↔ Reach to gs.length x)) (hW : Below w1.heap.size w1 W)
    (hrow : w6.ownsRow base 29 1 (.slice (some ⟨g, 0, none⟩) (gs.length + 1) cap) (gs.length + 1) (gs.map (hdr N) ++ [hdr N w.heap.size])) (hg : W.grownBy w6 v.ownBlock) (hat : v.ownBlock = some g ∨ g = W.heap.size) : Laid to N base w6 (.slice (some ⟨g, 0, none⟩) (gs.length + 1) cap) (gs ++ [w.heap.size]) := by
  obtain ⟨ho, hx⟩ := h
  have hz := hr.lt
  have hs := hW.size
  refine ⟨by simpa using hrow, fun i q hq => ?_⟩
  by_cases hi : i < gs.length
  · rw [List.getElem?_append_left hi] at hq
    obtain ⟨h2, B', h3, h4⟩ := hx i q hq
    have hql := h3.lt
    refine ⟨fun e => ?_, B', ?_, h4⟩
    · have e : g = q := by simpa [Value.ownBlock] using e
      subst e
      rcases hat with hat | hat
      · exact h2 hat
      · omega
    · exact ((h3.below h1 hql).below hW (by omega)).grown hg (fun e => h2 e.symm)
  · obtain rfl : i = gs.length := by
      have := (List.getElem?_eq_some_iff.1 hq).1
      simp at this
      omega
    have e : w.heap.size = q := by simpa using hq
    subst e
    have hne : v.ownBlock ≠ some w.heap.size := fun e => by have := (ho.lt _ e).2; omega
    refine ⟨fun e => ?_, B, (hr.below hW hz).grown hg (fun e => hne e.symm), hB⟩
    have e : g = w.heap.size := by simpa [Value.ownBlock] using e
    subst e
    rcases hat with hat | hat
    · exact hne hat
    · omega
theorem Laid.below {to : Nat → List Nat} {N base : Nat} {w w1 : World} {v : Value} {gs : List Nat} (h : Laid to N base w v gs) (hb : Below w.heap.size w w1) : Laid to N base w1 v gs :=
  ⟨own_below h.1 hb, fun i g hg => ⟨(h.2 i g hg).1, let ⟨B, h1, h2⟩ := (h.2 i g hg).2; ⟨B, h1.below hb h1.lt, h2⟩⟩⟩
theorem Laid.all {to : Nat → List Nat} {N base : Nat} {w : World} {v : Value} {gs : List Nat} (h : Laid to N base w v gs) (hl : gs.length = N) : AllAt to N w v := by
  obtain ⟨ho, hx⟩ := h
  obtain ⟨A, c, rfl⟩ := own_slice ho
  refine ⟨A, c, by rw [hl], fun a ha => ?_⟩
  obtain ⟨g', hg'⟩ : ∃ g', gs[a]? = some g' := ⟨_, List.getElem?_eq_getElem (by omega)⟩
  obtain ⟨_, B, h3, h4⟩ := hx a g' hg'
  rcases ho.2 with ⟨hv, h0⟩ | ⟨g, cap, cur, hv, _, _, _, _, _, _⟩
  · omega
  · injection hv with e1 _ e3
    subst e1 e3
    refine ⟨g, 0, g', B, rfl, ?_, fun b hb => h3.get (bv_get B hb), h4⟩
    rw [Nat.zero_add, ho.cellAt a (by omega), List.getElem?_map, hg']
    rfl

def AllP (to : Nat → List Nat) (N : Nat) (w : World) (e : Ending) (w' : World) : Prop := ∃ v : Value, e = .returned v ∧ AllAt to N w' v ∧ Below w.heap.size w w'
set_option maxHeartbeats 400000 in
theorem all_any {L : List (Nat × Nat)} {v : Value} (N : Nat) (w : World) (hl : EsAt w v (L.map castP)) (hN : N ≤ 1000) (hL : L.length ≤ 10000) (hpts : ∀ p ∈ L, p.1 < N ∧ p.2 < N) : Calls Try.prog 26 #[.int .i64 N, v] w (AllP (toL L) N w) := by
  have HL := Lib.hid hl; clear hl
  have HPT := Lib.hid hpts; clear hpts
  obtain ⟨i0, hi, hz0, hz1, hz2⟩ := info_parts info29
  have HI := Lib.hid hi; clear hi
  have HZ0 := Lib.hid hz0; clear hz0
  have HZ1 := Lib.hid hz1; clear hz1
  have HZ2 := Lib.hid hz2; clear hz2
  go_enter Try.func26, Try.ntmps26
  go_wp2_with fail
  go_loopw [5, 6] (fun t i wr => ∃ gs : List Nat, gs.length ≤ N ∧ i = .int .i64 gs.length ∧ Laid (toL L) N w.heap.size wr t gs ∧ Below w.heap.size w wr) (fun _ i _ => N - (intOf i).toNat)
  case atStart => exact ⟨[], Nat.zero_le _, rfl, ⟨World.ownsRow_nil _ _ _ _, by simp⟩, Below.refl _ _⟩
  case round =>
    obtain ⟨gs, hk, rfl, hla, hb⟩ := hrel
    have HLA := Lib.hid hla
    have HB := Lib.hid hb; clear hb
    obtain ⟨At, ct, rfl⟩ := own_slice hla.1
    clear hla
    by_cases hlt : gs.length < N
    · have HLT := Lib.hid hlt
      have HLN : Hid (gs.length + 1 ≤ maxLen ∧ (gs.length + 1) * 24 ≤ 140737488355328) := by unfold Hid maxLen; omega
      go_wp2_with (first
        | (go_at_call 11; refine (come_any N gs.length _ (HL.out.below HB.out) hN hL HPT.out hlt).mono ?_; rintro e w1 ⟨B, rfl, hr, h1, hB⟩; have HR := Lib.hid hr; have H1 := Lib.hid h1; have HBB := Lib.hid hB; clear hr h1 hB)
        | (at_builtin; refine wpList_append_lies _ rfl _ _ 51 rfl w.heap.size 29 i0 _ 1 24 Try.underlying51 HI.out HZ0.out HZ1.out HZ2.out rfl (by decide) _ gs.length (gs.map (hdr N)) rfl (own_below HLA.out.1 (Below.trans H1.out ((Below.refl _ _).alloc H1.out.size _))) ⟨w1.heap.size, 0, none⟩ 1 1 [hdr N wr.heap.size] rfl rfl (cell_one_new _ _ _) (by intro u hu; simp at hu; subst hu; rfl) (by decide) HLN.out.1 HLN.out.2 (by have := HB.out.size; have := H1.out.size; simp; omega) _ rfl ?_; intro g cap w6 hrow hgrow hat hg6; have HST := Lib.hid (HLA.out.step H1.out HR.out HBB.out ((Below.refl _ _).alloc (Nat.le_refl _) _) hrow hgrow hat); have H6 : Hid (Below w.heap.size w w6) := Lib.hid (((HB.out.trans (H1.out.mono HB.out.size)).alloc (Nat.le_trans HB.out.size H1.out.size) _).grown hgrow (by have := HB.out.size; have := H1.out.size; simp; omega) (fun q hq => own_base HLA.out.1 q hq)); clear hrow hgrow hat))
      go_wp2
      go_roundw
      case rel => exact ⟨gs ++ [wr.heap.size], by rw [List.length_append]; exact HLT.out, by rw [List.length_append]; go_num, HST.out, H6.out⟩
      case measure => have := HLT.out; simp [intOf]; omega
    · have e : gs.length = N := by omega
      have HE := Lib.hid e
      go_wp2
      go_ret
      exact ⟨_, rfl, HLA.out.all HE.out, HB.out⟩

end Go.Proofs.Ytkmbjpgpkgeiaaa

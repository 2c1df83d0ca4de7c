/- The contracts of the document's Ties and Tied. -/
import Derived.Test.YtkmbjpgpkgeiaaaRows
import Derived.WalkKit
import Derived.ProofKit
import Derived.OpenShut
import Derived.Below
import Derived.Outline
import Derived.LoopTactic
import Derived.Lib.Hide
import Derived.WalkSpells
import Derived.RegionTactic
import Derived.BigRegion
import Derived.Deep.QuietTactic
import Derived.BigQuiet
import Derived.Deep.RegionWith
import Derived.Test.YtkmbjpgpkgeiaaaF1
import Derived.Test.YtkmbjpgpkgeiaaaH3
namespace Go.Proofs.Ytkmbjpgpkgeiaaa
open Go.ChangeShapes Go.WideShapes Go.ChangeAt Go.RowKit
set_option linter.unusedVariables false

theorem tie_split {n a : Int} {l : List (Int × Int)} (h : tieI n l a = 0) : chkI n l = 0 ∧ 0 ≤ a ∧ a < n := by
  unfold tieI at h
  split at h
  · rename_i h1
    split at h
    · cases h
    · exact ⟨h1, by omega, by omega⟩
  · rename_i h1
    exact absurd h h1
def Back (L : List (Nat × Nat)) (A k : Nat) : Prop := ∃ p ∈ L.take k, p.1 = A ∧ Reach (toL L) p.2 A
theorem back_more {L : List (Nat × Nat)} {A k : Nat} {p : Nat × Nat} (hp : L[k]? = some p) : Back L A (k + 1) ↔ Back L A k ∨ (p.1 = A ∧ Reach (toL L) p.2 A) := by
  obtain ⟨h, e⟩ := List.getElem?_eq_some_iff.1 hp
  unfold Back
  rw [List.take_succ_eq_append_getElem h, e]
  simp only [List.mem_append, List.mem_singleton]
  constructor
  · rintro ⟨q, hq | rfl, r⟩
    · exact .inl ⟨q, hq, r⟩
    · exact .inr r
  · rintro (⟨q, hq, r⟩ | r)
    · exact ⟨q, .inl hq, r⟩
    · exact ⟨p, .inr rfl, r⟩
theorem back_all {L : List (Nat × Nat)} {A k : Nat} (h : Back L A k) : ∃ p ∈ L, p.1 = A ∧ Reach (toL L) p.2 A := by
  obtain ⟨p, hp, r⟩ := h
  exact ⟨p, List.mem_of_mem_take hp, r⟩
def TiesP (L : List (Nat × Nat)) (A : Nat) (w : World) (e : Ending) (w' : World) : Prop := ∃ b : Bool, e = .returned (.bool b) ∧ (b = true ↔ ∃ p ∈ L, p.1 = A ∧ Reach (toL L) p.2 A) ∧ Below w.heap.size w w'
set_option maxHeartbeats 1000000 in
theorem ties_any {L : List (Nat × Nat)} {v : Value} (N A : Nat) (w : World) (hl : EsAt w v (L.map castP)) (hN : N ≤ 1000) (hL : L.length ≤ 10000) (hpts : ∀ p ∈ L, p.1 < N ∧ p.2 < N) (hA : A < N) : Calls Try.prog 29 #[.int .i64 N, v, .int .i64 A] w (TiesP L A w) := by
  obtain ⟨Al, cl, rfl⟩ : ∃ A c, v = .slice A L.length c := by
    obtain ⟨A, c, h1, _⟩ := hl
    exact ⟨A, c, by rw [h1, List.length_map]⟩
  have HL := Lib.hid hl; clear hl
  have HPT := Lib.hid hpts; clear hpts
  go_enter Try.func29, Try.ntmps29
  go_wp2_with fail
  go_loopw [7] (fun i wr => ∃ k : Nat, k ≤ L.length ∧ i = .int .i64 k ∧ ¬ Back L A k ∧ Below w.heap.size w wr) (fun i _ => L.length - (intOf i).toNat)
  case atStart => exact ⟨0, Nat.zero_le _, rfl, by simp [Back], Below.refl _ _⟩
  case round =>
    obtain ⟨k, hk, rfl, hno, hb⟩ := hrel
    have HNO := Lib.hid hno; clear hno
    have HB := Lib.hid hb; clear hb
    by_cases hlt : k < L.length
    · have HLT := Lib.hid hlt
      obtain ⟨p, hp⟩ : ∃ p, L[k]? = some p := ⟨_, List.getElem?_eq_getElem hlt⟩
      have HP := Lib.hid hp
      have hpn := (HPT.out p (List.mem_of_getElem? hp)).2
      obtain ⟨gx, ox, rfl, hgx, q0, q1⟩ := HL.out.get (i := k) (x := castP p) (by rw [List.getElem?_map, hp]; rfl)
      replace q0 := cell_below HB.out q0
      replace q1 := cell_below HB.out q1
      obtain ⟨x, y⟩ := p
      simp only [castP] at q0 q1 hpn
      clear hp
      by_cases hx : x = A
      · subst hx
        have EL := Lib.hid (HL.out.below HB.out)
        go_wp2_with fail
        (with_reducible refine (come_any N y _ EL.out hN hL HPT.out hpn).mono ?_); rintro e w3 ⟨B1, rfl, hr1, b1, hb1⟩
        have r1 := hr1.get (bv_get B1 hA)
        have z1 := hr1.lt
        have BZ := Lib.hid (HB.out.trans (b1.mono HB.out.size))
        have HB1 := Lib.hid (hb1 x hA)
        clear hr1 b1 hb1
        obtain ⟨c, hcb⟩ : ∃ c, B1 x = c := ⟨_, rfl⟩
        rw [hcb] at r1
        have HCB := Lib.hid hcb; clear hcb
        cases c with
        | true =>
          have HY : Hid (∃ p ∈ L, p.1 = x ∧ Reach (toL L) p.2 x) := back_all ((back_more HP.out).2 (.inr ⟨rfl, HB1.out.1 HCB.out⟩))
          go_wp2
          go_ret
          exact ⟨true, rfl, ⟨fun _ => HY.out, fun _ => rfl⟩, BZ.out⟩
        | false =>
          have HN : Hid (¬ Back L x (k + 1)) := fun h => by
            rcases (back_more HP.out).1 h with h | h
            · exact HNO.out h
            · have := HB1.out.2 h.2
              rw [HCB.out] at this
              cases this
          go_wp2
          go_roundw
          case rel => exact ⟨k + 1, HLT.out, by go_num, HN.out, BZ.out⟩
          case measure => have := HLT.out; simp [intOf]; omega
      · have d1 : decide ((x : Int) = (A : Int)) = false := by simp; omega
        have d2 : ((x : Int) == (A : Int)) = false := by simpa using d1
        have HN : Hid (¬ Back L A (k + 1)) := fun h => by
          rcases (back_more HP.out).1 h with h | h
          · exact HNO.out h
          · exact hx h.1
        clear hx
        go_wp2
        go_roundw
        case rel => exact ⟨k + 1, HLT.out, by go_num, HN.out, HB.out⟩
        case measure => have := HLT.out; simp [intOf]; omega
    · obtain rfl : k = L.length := by omega
      have HN : Hid (¬ ∃ p ∈ L, p.1 = A ∧ Reach (toL L) p.2 A) := fun h => HNO.out (by unfold Back; rw [List.take_length]; exact h)
      go_wp2
      go_ret
      exact ⟨false, rfl, ⟨fun h => (by cases h), fun h => absurd h HN.out⟩, HB.out⟩

set_option maxHeartbeats 4000000 in
theorem rtied_any {l : List (Int × Int)} {v : Value} (n a : Int) (w : World) (hl : EsAt w v l) : Calls Try.prog 17 #[.int .i64 n, v, .int .i64 a] w (TiedP n l a w) := by
  have HL := Lib.hid hl; clear hl
  by_cases hc : chkI n l = 0
  · obtain ⟨N, rfl, hN, hLn, hmap, hpts⟩ := chk_ok hc
    have HC := Lib.hid hc
    by_cases ha : a < 0 ∨ (N : Int) ≤ a
    · have ht : tieI N l a = 2 := by unfold tieI; rw [if_pos hc, if_pos ha]
      have HT := Lib.hid ht; clear ht
      by_cases h1 : a < 0
      · clear ha
        go_enter Try.func17, Try.ntmps17
        go_wp2_with (go_at_call 25; refine (rcheck_any _ _ HL.out).mono ?_; rintro e w1 ⟨rfl, rfl⟩; rw [hc])
        go_wp2
        refine bodyPost_ret (v := .tuple #[.bool false, .int .i64 2]) (by simp [results, Try.results17, go_sem, *]) rfl ?_
        exact ⟨false, by rw [HT.out], Below.refl _ _, fun _ => rfl, fun _ _ _ _ h => by rw [HT.out] at h; cases h⟩
      · have h2 : (N : Int) ≤ a := by omega
        clear ha
        go_enter Try.func17, Try.ntmps17
        go_wp2_with (go_at_call 25; refine (rcheck_any _ _ HL.out).mono ?_; rintro e w1 ⟨rfl, rfl⟩; rw [hc])
        go_wp2
        refine bodyPost_ret (v := .tuple #[.bool false, .int .i64 2]) (by simp [results, Try.results17, go_sem, *]) rfl ?_
        exact ⟨false, by rw [HT.out], Below.refl _ _, fun _ => rfl, fun _ _ _ _ h => by rw [HT.out] at h; cases h⟩
    · obtain ⟨A, rfl⟩ : ∃ A : Nat, a = (A : Int) := ⟨a.toNat, by omega⟩
      have hA : A < N := by omega
      have ht : tieI N l A = 0 := by unfold tieI; rw [if_pos hc, if_neg ha]
      have HT := Lib.hid ht; clear ht ha
      have HA := Lib.hid hA
      have HLL : Hid (EsAt w v ((toN l).map castP)) := Lib.hid (by rw [hmap]; exact HL.out)
      have HPT := Lib.hid hpts; clear hpts hmap
      have d1 : ¬ ((A : Int) < 0) := by omega
      have d2 : ¬ ((N : Int) ≤ (A : Int)) := by omega
      go_enter Try.func17, Try.ntmps17
      go_wp2_with (first
        | (go_at_call 25; refine (rcheck_any _ _ HL.out).mono ?_; rintro e w1 ⟨rfl, rfl⟩; rw [hc])
        | (go_at_call 29; refine (ties_any N A _ HLL.out hN hLn HPT.out HA.out).mono ?_; rintro e w7 ⟨b, rfl, hb, h7⟩; have HB := Lib.hid hb; have H7 := Lib.hid h7; clear hb h7))
      go_wp2
      refine bodyPost_ret (v := .tuple #[.bool b, .int .i64 0]) (by simp [results, Try.results17, go_sem, *]) rfl ?_
      refine ⟨b, by rw [HT.out], H7.out, fun h => absurd HT.out h, fun M B hM hB _ => ?_⟩
      obtain rfl : N = M := by omega
      obtain rfl : A = B := by omega
      exact HB.out
  · have ht : tieI n l a = chkI n l := by unfold tieI; rw [if_neg hc]
    have HT := Lib.hid ht; clear ht
    have HC := Lib.hid hc
    obtain ⟨c, hcc⟩ : ∃ c, chkI n l = c := ⟨_, rfl⟩
    have HCC := Lib.hid hcc
    rw [hcc] at hc
    have hne1 : (c != 0) = true := by simpa using hc
    have hne2 : (c == 0) = false := by simpa using hc
    have hne3 : decide (c = 0) = false := by simpa using hc
    clear hcc
    go_enter Try.func17, Try.ntmps17
    go_wp2_with (go_at_call 25; refine (rcheck_any _ _ HL.out).mono ?_; rintro e w1 ⟨rfl, rfl⟩; rw [HCC.out])
    go_wp2
    refine bodyPost_ret (v := .tuple #[.bool false, .int .i64 c]) (by simp [results, Try.results17, go_sem, *]) rfl ?_
    exact ⟨false, by rw [HT.out, HCC.out], Below.refl _ _, fun _ => rfl, fun _ _ _ _ h => absurd (HT.out.symm.trans h) HC.out⟩

end Go.Proofs.Ytkmbjpgpkgeiaaa

/- The contracts of the document's Head and Heads. -/
import Derived.Test.YtkmbjpgpkgeiaaaRows
import Derived.WalkKit
import Derived.ProofKit
import Derived.OpenShut
import Derived.Below
import Derived.Outline
import Derived.LoopTactic
import Derived.Lib.Hide
import Derived.WalkSpells
import Derived.RegionTactic
import Derived.BigRegion
import Derived.Deep.QuietTactic
import Derived.BigQuiet
import Derived.Deep.RegionWith
import Derived.Deep.AppendLies
import Derived.Test.YtkmbjpgpkgeiaaaF2
namespace Go.Proofs.Ytkmbjpgpkgeiaaa
open Go.ChangeShapes Go.WideShapes Go.ChangeAt Go.RowKit
set_option linter.unusedVariables false

def HeadP (to : Nat → List Nat) (a : Nat) (w : World) (e : Ending) (w' : World) : Prop := ∃ m : Nat, e = .returned (.int .i64 m) ∧ IsHead to a m ∧ w = w'
set_option maxHeartbeats 1000000 in
theorem head_any {to : Nat → List Nat} {N a : Nat} {v : Value} (w : World) (h : AllAt to N w v) (ha : a < N) (hN : N ≤ 1000) : Calls Try.prog 27 #[v, .int .i64 a] w (HeadP to a w) := by
  have HA := Lib.hid h
  obtain ⟨A, c, rfl, hx⟩ := h
  obtain ⟨g, o, ga, Ba, rfl, qa, ra, ea⟩ := hx a ha
  have HX := Lib.hid hx; clear hx
  have RA := Lib.hid ra; clear ra
  have EA := Lib.hid ea; clear ea
  go_enter Try.func27, Try.ntmps27
  go_wp2_with fail
  go_loopw [5] (fun i wr => ∃ b : Nat, b ≤ a ∧ i = .int .i64 b ∧ (∀ x, x < b → ¬ Mut to a x) ∧ wr = w) (fun i _ => a - (intOf i).toNat)
  case atStart => exact ⟨0, Nat.zero_le _, rfl, fun x hx => by omega, rfl⟩
  case round =>
    obtain ⟨b, hb, rfl, hno, rfl⟩ := hrel
    have HNO := Lib.hid hno; clear hno
    by_cases hlt : b < a
    · have HLT := Lib.hid hlt
      have hbN : b < N := by omega
      obtain ⟨g2, o2, gb, Bb, e2, qb, rb, eb⟩ := HX.out b hbN
      injection e2 with e2
      injection e2 with e3 e4 _
      subst e3 e4
      have q1 := RA.out b hbN
      have q2 := rb a ha
      have E1 := Lib.hid (EA.out b hbN)
      have E2 := Lib.hid (eb a ha)
      clear rb eb
      have NX : Hid (¬ Mut to a b → ∀ x, x < b + 1 → ¬ Mut to a x) := fun hm x hx => by
        by_cases e : x = b
        · subst e; exact hm
        · exact HNO.out x (by omega)
      obtain ⟨c1, hc1⟩ : ∃ c, Ba b = c := ⟨_, rfl⟩
      obtain ⟨c2, hc2⟩ : ∃ c, Bb a = c := ⟨_, rfl⟩
      rw [hc1] at q1
      rw [hc2] at q2
      have HC1 := Lib.hid hc1; clear hc1
      have HC2 := Lib.hid hc2; clear hc2
      cases c1 with
      | false =>
        have HM : Hid (¬ Mut to a b) := fun h => by
          have := E1.out.2 h.1
          rw [HC1.out] at this
          cases this
        clear q2
        go_wp2
        go_roundw
        case rel => exact ⟨b + 1, HLT.out, by go_num, NX.out HM.out, (by first | rfl | trivial)⟩
        case measure => have := HLT.out; simp [intOf]; omega
      | true =>
        cases c2 with
        | false =>
          have HM : Hid (¬ Mut to a b) := fun h => by
            have := E2.out.2 h.2
            rw [HC2.out] at this
            cases this
          go_wp2
          go_roundw
          case rel => exact ⟨b + 1, HLT.out, by go_num, NX.out HM.out, (by first | rfl | trivial)⟩
          case measure => have := HLT.out; simp [intOf]; omega
        | true =>
          have HM : Hid (Mut to a b) := ⟨E1.out.1 HC1.out, E2.out.1 HC2.out⟩
          go_wp2
          go_ret
          exact ⟨b, rfl, ⟨HM.out, fun x hx => Nat.le_of_not_lt (fun h => HNO.out x h hx)⟩, rfl⟩
    · obtain rfl : b = a := by omega
      go_wp2
      go_ret
      exact ⟨b, rfl, ⟨Mut.refl _ _, fun x hx => Nat.le_of_not_lt (fun h => HNO.out x h hx)⟩, rfl⟩

set_option maxHeartbeats 4000000 in
theorem rheads_any {l : List (Int × Int)} {v : Value} (n : Int) (w : World) (hl : EsAt w v l) : Calls Try.prog 15 #[.int .i64 n, v] w (HeadsP n l w) := by
  have HL := Lib.hid hl; clear hl
  by_cases hc : chkI n l = 0
  · obtain ⟨N, rfl, hN, hLn, hmap, hpts⟩ := chk_ok hc
    have HC := Lib.hid hc
    have HLL : Hid (EsAt w v ((toN l).map castP)) := Lib.hid (by rw [hmap]; exact HL.out)
    have HPT := Lib.hid hpts; clear hpts
    obtain ⟨i0, hi, hz0, hz1, hz2⟩ := info_parts info3
    have HI := Lib.hid hi; clear hi
    have HZ0 := Lib.hid hz0; clear hz0
    have HZ1 := Lib.hid hz1; clear hz1
    have HZ2 := Lib.hid hz2; clear hz2
    go_enter Try.func15, Try.ntmps15
    go_wp2_with (first
      | (go_at_call 25; refine (rcheck_any _ _ HL.out).mono ?_; rintro e w1 ⟨rfl, rfl⟩; rw [hc])
      | (go_at_call 26; refine (all_any N _ HLL.out hN hLn HPT.out).mono ?_; rintro e w5 ⟨va, rfl, hall, h5⟩; have HALL := Lib.hid hall; have H5 := Lib.hid h5; clear hall h5))
    obtain ⟨wo, rfl⟩ : ∃ wo : World, wo = w5 := ⟨_, rfl⟩
    go_loopw [8, 9] (fun t i wr => ∃ xs : List Int, xs.length ≤ N ∧ i = .int .i64 xs.length ∧ wr.ownsRow wo.heap.size 3 1 t xs.length (xs.map iv) ∧ Below wo.heap.size wo wr ∧ ∀ a, a < xs.length → ∃ m : Nat, xs[a]? = some (m : Int) ∧ IsHead (toL (toN l)) a m) (fun _ i _ => N - (intOf i).toNat)
    case atStart => exact ⟨[], Nat.zero_le _, rfl, World.ownsRow_nil _ _ _ _, Below.refl _ _, fun a ha => by simp at ha⟩
    case round =>
      obtain ⟨xs, hk, rfl, ho, hb, hx⟩ := hrel
      have HO := Lib.hid ho
      have HB := Lib.hid hb; clear hb
      have HX := Lib.hid hx; clear hx
      obtain ⟨At, ct, rfl⟩ := own_slice ho
      clear ho
      by_cases hlt : xs.length < N
      · have HLT := Lib.hid hlt
        have HLN : Hid (xs.length + 1 ≤ maxLen ∧ (xs.length + 1) * 8 ≤ 140737488355328) := by unfold Hid maxLen; omega
        go_wp2_with (first
          | (go_at_call 27; refine (head_any _ (HALL.out.below HB.out) hlt hN).mono ?_; rintro e w7 ⟨m, rfl, hm, rfl⟩; have HM := Lib.hid hm; clear hm)
          | (at_builtin; refine wpList_append_lies _ rfl _ _ 25 rfl wo.heap.size 3 i0 _ 1 8 Try.underlying25 HI.out HZ0.out HZ1.out HZ2.out rfl (by decide) _ xs.length (xs.map iv) rfl (own_below HO.out ((Below.refl _ _).alloc (Nat.le_refl _) _)) ⟨wr.heap.size, 0, none⟩ 1 1 [iv m] rfl rfl (cell_one_new _ _ _) (by intro u hu; simp at hu; subst hu; rfl) (by decide) HLN.out.1 HLN.out.2 (by have := HB.out.size; simp; omega) _ rfl ?_; intro g cap w6 hrow hgrow hat hg6; have HROW : Hid (w6.ownsRow wo.heap.size 3 1 (.slice (some ⟨g, 0, none⟩) (xs.length + 1) cap) (xs ++ [(m : Int)]).length ((xs ++ [(m : Int)]).map iv)) := Lib.hid (by simpa using hrow); have H6 : Hid (Below wo.heap.size wo w6) := Lib.hid ((HB.out.alloc HB.out.size _).grown hgrow (by have := HB.out.size; simp; omega) (fun q hq => own_base HO.out q hq)); clear hrow hgrow hat))
        go_wp2
        go_roundw
        case rel => exact ⟨xs ++ [(m : Int)], by rw [List.length_append]; exact HLT.out, by rw [List.length_append]; go_num, HROW.out, H6.out, fun a ha => by
          by_cases e : a < xs.length
          · rw [List.getElem?_append_left e]
            exact HX.out a e
          · obtain rfl : a = xs.length := by simp at ha; omega
            exact ⟨m, by simp, HM.out⟩⟩
        case measure => have := HLT.out; simp [intOf]; omega
      · have e : xs.length = N := by omega
        have HE := Lib.hid e
        clear e
        go_wp2
        refine bodyPost_ret (v := .tuple #[.slice At xs.length ct, .int .i64 0]) (by simp [results, Try.results15, go_sem, *]) rfl ?_
        exact ⟨_, xs, by rw [HC.out], IsAt.own HO.out, H5.out.trans (HB.out.mono H5.out.size), fun h => absurd HC.out h, fun M hM _ => by
          obtain rfl : N = M := by omega
          exact ⟨HE.out, fun a ha => HX.out a (by rw [HE.out]; exact ha)⟩⟩
  · have HC := Lib.hid hc
    obtain ⟨c, hcc⟩ : ∃ c, chkI n l = c := ⟨_, rfl⟩
    have HCC := Lib.hid hcc
    rw [hcc] at hc
    have hne1 : (c != 0) = true := by simpa using hc
    have hne2 : (c == 0) = false := by simpa using hc
    clear hcc
    go_enter Try.func15, Try.ntmps15
    go_wp2_with (go_at_call 25; refine (rcheck_any _ _ HL.out).mono ?_; rintro e w1 ⟨rfl, rfl⟩; rw [HCC.out])
    refine bodyPost_ret (v := .tuple #[.slice none 0 0, .int .i64 c]) (by simp [results, Try.results15, go_sem, *]) rfl ?_
    exact ⟨.slice none 0 0, [], by rw [HCC.out], is_nil _, Below.refl _ _, fun _ => rfl, fun _ _ h => absurd h HC.out⟩

end Go.Proofs.Ytkmbjpgpkgeiaaa

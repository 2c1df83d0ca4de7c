/- KnotTied: a point is tied just if a way of one arrow or more leads back to it, at every graph and point; the call answers true, and what is handed in reads as before. No condition. -/
import Derived.Test.YtkmbjpgpkgeiaaaRows
import Derived.WalkKit
import Derived.ProofKit
import Derived.OpenShut
import Derived.Below
import Derived.Outline
import Derived.LoopTactic
import Derived.Lib.Hide
import Derived.WalkSpells
import Derived.RegionTactic
import Derived.BigRegion
import Derived.Deep.QuietTactic
import Derived.BigQuiet
import Derived.Deep.RegionWith
import Derived.Test.YtkmbjpgpkgeiaaaO
import Derived.Test.YtkmbjpgpkgeiaaaG
import Derived.Test.YtkmbjpgpkgeiaaaF1
import Derived.Test.YtkmbjpgpkgeiaaaH3
namespace Go.Proofs.Ytkmbjpgpkgeiaaa.knotTied
open Go.Joins Go.ChangeShapes Go.WideShapes Go.ChangeAt Go.RowKit Go.Deep
set_option linter.unusedVariables false

theorem great_at {l : List (Int × Int)} {v : Value} {n : Int} {b : Bool} (h : greatB n l = b) (w : World) (hl : EsAt w v l) : Calls Try.prog 9 #[.int .i64 n, v] w fun e w' => e = .returned (.bool b) ∧ w = w' := by
  subst h
  exact great_any n w hl
theorem is_form {w : World} {v : Value} {l : List Int} {N : Nat} (h : IsAt w v l) (hl : l.length = N) : ∃ A c, v = .slice A N c := by
  obtain ⟨A, c, rfl, _, _⟩ := h
  exact ⟨A, c, by rw [hl]⟩
def TrueP (w : World) (e : Ending) (w' : World) : Prop := e = .returned (.bool true) ∧ Below w.heap.size w w'

theorem tie_parts {n a : Int} {l : List (Int × Int)} (h : tieI n l a = 0) : chkI n l = 0 ∧ 0 ≤ a ∧ a < n := by
  unfold tieI at h
  split at h
  · rename_i h1
    split at h
    · cases h
    · exact ⟨h1, by omega, by omega⟩
  · rename_i h1
    exact absurd h h1
def Bk (L : List (Nat × Nat)) (A k : Nat) : Prop := ∃ p ∈ L.take k, p.1 = A ∧ Reach (toL L) p.2 A
theorem bk_more {L : List (Nat × Nat)} {A k : Nat} {p : Nat × Nat} (hp : L[k]? = some p) : Bk L A (k + 1) ↔ Bk L A k ∨ (p.1 = A ∧ Reach (toL L) p.2 A) := by
  obtain ⟨h, e⟩ := List.getElem?_eq_some_iff.1 hp
  unfold Bk
  rw [List.take_succ_eq_append_getElem h, e]
  simp only [List.mem_append, List.mem_singleton]
  constructor
  · rintro ⟨q, hq | rfl, r⟩
    · exact .inl ⟨q, hq, r⟩
    · exact .inr r
  · rintro (⟨q, hq, r⟩ | r)
    · exact ⟨q, .inl hq, r⟩
    · exact ⟨p, .inr rfl, r⟩
set_option maxRecDepth 100000 in
set_option maxHeartbeats 4000000 in
theorem core {l : List (Int × Int)} {v : Value} (n a : Int) (w : World) (hl : EsAt w v l) : Calls Try.prog 7 #[.int .i64 n, v, .int .i64 a] w (TrueP w) := by
  obtain ⟨Al, cl, rfl, hmx, _⟩ : ∃ A c, v = .slice A l.length c ∧ l.length ≤ 9223372036854775807 ∧ True := by
    obtain ⟨A, c, h1, h2, _⟩ := hl
    exact ⟨A, c, h1, h2, trivial⟩
  have HL := Lib.hid hl; clear hl
  go_enter Try.func7, Try.ntmps7
  go_wp2_with fail
  (with_reducible refine (alive_any _).mono ?_); rintro e w1 ⟨rfl, h1⟩
  have BX := Lib.hid h1; clear h1
  cases hg : greatB n l with
  | true =>
    go_wp2_with fail
    (with_reducible refine (great_at hg _ (HL.out.below BX.out)).mono ?_); rintro e _ ⟨rfl, rfl⟩
    go_wp2
    go_ret
    exact ⟨rfl, BX.out⟩
  | false =>
    by_cases h60 : 60 < n
    · go_wp2_with fail
      (with_reducible refine (great_at hg _ (HL.out.below BX.out)).mono ?_); rintro e _ ⟨rfl, rfl⟩
      go_wp2
      go_ret
      exact ⟨rfl, BX.out⟩
    · go_wp2_with fail
      (with_reducible refine (great_at hg _ (HL.out.below BX.out)).mono ?_); rintro e _ ⟨rfl, rfl⟩
      go_wp2_with fail
      (with_reducible refine (tied_any n a _ (HL.out.below BX.out)).mono ?_); rintro e w2 ⟨b, rfl, h2, hn, hh⟩
      have BY := Lib.hid (BX.out.trans (h2.mono BX.out.size)); clear h2
      by_cases hc : tieI n l a = 0
      · obtain ⟨hc1, ha0, ha1⟩ := tie_parts hc
        obtain ⟨N, rfl, hN, hLn, hmap, hpts⟩ := chk_ok hc1
        obtain ⟨A, rfl⟩ : ∃ A : Nat, a = (A : Int) := ⟨a.toNat, by omega⟩
        have hA : A < N := by omega
        have HB := Lib.hid (hh N A rfl rfl hc)
        have HM := Lib.hid hmap; clear hmap
        have HPT := Lib.hid hpts; clear hpts
        have HLE : Hid ((toN l).length = l.length) := by unfold Hid; simp [toN]
        have hl1 : l.length ≤ 10000 := by rw [← HLE.out]; exact hLn
        rw [hc]
        clear hc hc1 hh hn hg h60 ha0 ha1
        go_wp2_with fail
        go_loopw [10, 11] (fun t i wr => ∃ (k : Nat) (c : Bool), k ≤ l.length ∧ i = .int .i64 k ∧ t = .bool c ∧ (c = true ↔ Bk (toN l) A k) ∧ Below w.heap.size w wr) (fun _ i _ => l.length - (intOf i).toNat)
        case atStart => exact ⟨0, false, Nat.zero_le _, rfl, rfl, by simp [Bk], BY.out⟩
        case round =>
          obtain ⟨k, c, hk, rfl, rfl, hbk, hb⟩ := hrel
          have HK := Lib.hid hbk; clear hbk
          have HBL := Lib.hid hb; clear hb
          by_cases hlt : k < l.length
          · have HLT := Lib.hid hlt
            obtain ⟨p, hp⟩ : ∃ p, (toN l)[k]? = some p := ⟨_, List.getElem?_eq_getElem (by rw [HLE.out]; exact hlt)⟩
            have HP := Lib.hid hp
            have hpn := (HPT.out p (List.mem_of_getElem? hp)).2
            have hpl : l[k]? = some (castP p) := by rw [← HM.out, List.getElem?_map, hp]; rfl
            obtain ⟨gx, ox, rfl, hgx, q0, q1⟩ := HL.out.get hpl
            replace q0 := cell_below HBL.out q0
            replace q1 := cell_below HBL.out q1
            obtain ⟨x, y⟩ := p
            simp only [castP] at q0 q1 hpn
            clear hp hpl
            cases c with
            | true =>
              have HKT : Hid (Bk (toN l) A (k + 1)) := (bk_more HP.out).2 (.inl (HK.out.1 rfl))
              go_wp2
              go_roundw
              case rel => exact ⟨k + 1, true, HLT.out, by go_num, rfl, ⟨fun _ => HKT.out, fun _ => rfl⟩, HBL.out⟩
              case measure => have := HLT.out; simp [intOf]; omega
            | false =>
              have HKF : Hid (¬ Bk (toN l) A k) := fun h => by have := HK.out.2 h; cases this
              clear HK
              by_cases hx : x = A
              · subst hx
                have EL : Hid (EsAt wr (.slice (some ⟨gx, ox, none⟩) l.length cl) ((toN l).map castP)) := Lib.hid (by rw [HM.out]; exact HL.out.below HBL.out)
                go_wp2_with fail
                (with_reducible refine (come_any N y _ EL.out hN hLn HPT.out hpn).mono ?_); rintro e w3 ⟨B1, rfl, hr1, b1, hb1⟩
                have r1 := hr1.get (bv_get B1 hA)
                have z1 := hr1.lt
                have BZ := Lib.hid (HBL.out.trans (b1.mono HBL.out.size))
                have HB1 := Lib.hid (hb1 x hA)
                clear hr1 b1 hb1
                obtain ⟨c, hcb⟩ : ∃ c, B1 x = c := ⟨_, rfl⟩
                rw [hcb] at r1
                have HKC : Hid (c = true ↔ Bk (toN l) x (k + 1)) := Lib.hid (by
                  rw [← hcb, bk_more HP.out, HB1.out]
                  exact ⟨fun h => .inr ⟨rfl, h⟩, fun h => h.elim (fun h => absurd h HKF.out) (·.2)⟩)
                clear hcb
                cases c
                all_goals
                  go_wp2
                  go_roundw
                  case rel => exact ⟨k + 1, _, HLT.out, by go_num, rfl, (by simpa using HKC.out), BZ.out⟩
                  case measure => have := HLT.out; simp [intOf]; omega
              · have d1 : decide ((x : Int) = (A : Int)) = false := by simp; omega
                have d2 : ((x : Int) == (A : Int)) = false := by simpa using d1
                have HKC : Hid (¬ Bk (toN l) A (k + 1)) := fun h => by
                  rcases (bk_more HP.out).1 h with h | h
                  · exact HKF.out h
                  · exact hx h.1
                clear hx
                go_wp2
                go_roundw
                case rel => exact ⟨k + 1, false, HLT.out, by go_num, rfl, ⟨fun h => (by cases h), fun h => absurd h HKC.out⟩, HBL.out⟩
                case measure => have := HLT.out; simp [intOf]; omega
          · obtain rfl : k = l.length := by omega
            have hbc : b = c := by
              have h1 : b = true ↔ c = true := by
                rw [HB.out, HK.out]
                unfold Bk
                rw [← HLE.out, List.take_length]
              cases b <;> cases c <;> simp_all
            subst hbc
            cases b
            all_goals
              go_wp2
              go_ret
              exact ⟨rfl, HBL.out⟩
      · have hx0 := hn hc
        subst hx0
        obtain ⟨c, hcc⟩ : ∃ c, tieI n l a = c := ⟨_, rfl⟩
        rw [hcc] at hc ⊢
        have hne1 : (c != 0) = true := by simpa using hc
        have hne2 : (c == 0) = false := by simpa using hc
        clear hcc hh hn
        go_wp2
        go_ret
        exact ⟨rfl, BY.out⟩

/-! ### THE ROW's STEP -/
theorem own : ownKnob Try.prog.godebug = none := by kernel_rfl

theorem laidOut : laidOutB Try.prog = true := by kernel_rfl

set_option maxRecDepth 100000 in
theorem lifted (os : Os) (started : os.Started) (H : Type) (enc : TypeId × Value → H) :
    ReturnsInHanded {} Try.checked os 7 .any (Rows.knotTiedSpec.pre6 enc Try.prog Try.f7 Rows.knotTiedRow.domain false) (Rows.knotTiedSpec.post enc Try.prog Try.f7 false true false false) := by
  refine returnsInHanded_of_change (C := Try.checked) own started (by kernel_rfl) Try.func7
    (ChangeSpec.witness6 (enc := enc) (C := Try.checked) false ⟨#[], #[.int .i64 0, .slice none 0 0, .int .i64 0], []⟩ 8 (by kernel_rfl) (by kernel_rfl) (by kernel_rfl) (by kernel_rfl)) ?_
  intro W base args ds gs before hval0 hW hcnd _
  have hval : ∀ (j : Nat) t v, Try.f7.params[j]? = some t → args[j]? = some v → Value.okWide Try.prog W .any base t v := hval0
  have hW' := hW
  obtain ⟨p, q, hA0, hV, rfl, hfz, hnd⟩ := hW
  have hA : DataW.TrodAll enc Try.prog W 0 (fun _ => true) true Try.f7.params.toList args.toList ds p := hA0
  rw [Try.params7] at hA hval
  obtain ⟨v0, vs0, d0, ds0, p0, q0, hargs, rfl, rfl, h0, r0⟩ := trodAll_cons hA
  obtain ⟨v1, vs1, d1, ds1, p1, q1, rfl, rfl, rfl, h1, r1⟩ := trodAll_cons r0
  obtain ⟨v2, vs2, d2, ds2, p2, q2, rfl, rfl, rfl, h2, r2⟩ := trodAll_cons r1
  obtain ⟨rfl, rfl, rfl⟩ := trodAll_nil r2
  obtain rfl : args = #[v0, v1, v2] := by cases args; simp_all
  obtain ⟨rfl, rfl⟩ := trodVars_none hV
  obtain ⟨a0, rfl, rfl, rfl, w0⟩ := open_int Try.underlying3 (hval 0 3 v0 rfl rfl) h0
  obtain ⟨l1, hl1⟩ := open_edges (hval 1 22 v1 rfl rfl) h1
  obtain ⟨a2, rfl, rfl, rfl, w2⟩ := open_int Try.underlying3 (hval 2 3 v2 rfl rfl) h2
  refine (core a0 a2 W hl1).mono fun e W' ⟨he, hg⟩ => ?_
  subst he
  exact ⟨_, rfl, law_post laidOut (by
    intro t ht
    simp only [Try.params7, List.mem_cons, List.not_mem_nil, or_false] at ht
    rcases ht with rfl | rfl | rfl <;> exact ⟨by kernel_rfl, of_decide_eq_true (by kernel_rfl)⟩) rfl rfl Try.underlying4 rfl hW' hg⟩

theorem over : Rows.knotTiedRow.holds Try.pinned (OpenSpec.ofChange Rows.knotTiedSpec) :=
  OpenClaim.holds_of_wide 7 Try.f7 rfl rfl rfl rfl rfl rfl rfl ⟨rfl, rfl, rfl, rfl, rfl⟩ rfl rfl rfl rfl rfl (by kernel_rfl) Try.func7 (by kernel_rfl)
    (of_decide_eq_true (by kernel_rfl)) (by unfold Func.isWrapper; first | (rw [if_pos (by decide +kernel)]; kernel_rfl) | (rw [if_neg (by decide +kernel)]; exact ⟨rfl, rfl⟩))
    (fun os started H enc _ => lifted os started H enc)

theorem proved : Rows.KnotTiedSaid :=
  over
#print axioms proved

end Go.Proofs.Ytkmbjpgpkgeiaaa.knotTied

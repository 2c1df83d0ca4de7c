/- KnotBoth: two points have one head just if each comes to the other, and a head is the least of its knot, at every graph and two points; the call answers true, and what is handed in reads as before. No condition. -/
import Derived.Test.YtkmbjpgpkgeiaaaRows
import Derived.WalkKit
import Derived.ProofKit
import Derived.OpenShut
import Derived.Below
import Derived.Outline
import Derived.LoopTactic
import Derived.Lib.Hide
import Derived.WalkSpells
import Derived.RegionTactic
import Derived.BigRegion
import Derived.Deep.QuietTactic
import Derived.BigQuiet
import Derived.Deep.RegionWith
import Derived.Test.YtkmbjpgpkgeiaaaO
import Derived.Test.YtkmbjpgpkgeiaaaG
import Derived.Test.YtkmbjpgpkgeiaaaF1
namespace Go.Proofs.Ytkmbjpgpkgeiaaa.knotBoth
open Go.Joins Go.ChangeShapes Go.WideShapes Go.ChangeAt Go.RowKit Go.Deep
set_option linter.unusedVariables false

theorem great_at {l : List (Int × Int)} {v : Value} {n : Int} {b : Bool} (h : greatB n l = b) (w : World) (hl : EsAt w v l) : Calls Try.prog 9 #[.int .i64 n, v] w fun e w' => e = .returned (.bool b) ∧ w = w' := by
  subst h
  exact great_any n w hl
theorem is_form {w : World} {v : Value} {l : List Int} {N : Nat} (h : IsAt w v l) (hl : l.length = N) : ∃ A c, v = .slice A N c := by
  obtain ⟨A, c, rfl, _, _⟩ := h
  exact ⟨A, c, by rw [hl]⟩
def TrueP (w : World) (e : Ending) (w' : World) : Prop := e = .returned (.bool true) ∧ Below w.heap.size w w'

theorem come_get {to : Nat → List Nat} {N g : Nat} {B : Nat → Bool} {w : World} (h : Row w g 4 (bvL N B)) {i : Nat} (hi : i < N) : w.cell? ⟨g, i, none⟩ = some (.bool (B i)) := h.get (bv_get B hi)
set_option maxRecDepth 100000 in
set_option maxHeartbeats 4000000 in
theorem core {l : List (Int × Int)} {v : Value} (n a b : Int) (w : World) (hl : EsAt w v l) : Calls Try.prog 3 #[.int .i64 n, v, .int .i64 a, .int .i64 b] w (TrueP w) := by
  have HL := Lib.hid hl; clear hl
  go_enter Try.func3, Try.ntmps3
  go_wp2_with fail
  (with_reducible refine (alive_any _).mono ?_); rintro e w1 ⟨rfl, h1⟩
  have BX := Lib.hid h1; clear h1
  cases hg : greatB n l with
  | true =>
    go_wp2_with fail
    (with_reducible refine (great_at hg _ (HL.out.below BX.out)).mono ?_); rintro e _ ⟨rfl, rfl⟩
    go_wp2
    go_ret
    exact ⟨rfl, BX.out⟩
  | false =>
    by_cases h60 : 60 < n
    · go_wp2_with fail
      (with_reducible refine (great_at hg _ (HL.out.below BX.out)).mono ?_); rintro e _ ⟨rfl, rfl⟩
      go_wp2
      go_ret
      exact ⟨rfl, BX.out⟩
    · go_wp2_with fail
      (with_reducible refine (great_at hg _ (HL.out.below BX.out)).mono ?_); rintro e _ ⟨rfl, rfl⟩
      go_wp2_with fail
      (with_reducible refine (heads_any n _ (HL.out.below BX.out)).mono ?_); rintro e w2 ⟨hv, x, rfl, hx, h2, hn, hh⟩
      have BY := Lib.hid (BX.out.trans (h2.mono BX.out.size)); clear h2
      have HX := Lib.hid hx
      by_cases hc : chkI n l = 0
      · obtain ⟨N, rfl, hN, hLn, hmap, hpts⟩ := chk_ok hc
        have hd := hh N rfl hc
        obtain ⟨Ax, cx, rfl⟩ := is_form hx hd.1
        have HD := Lib.hid hd; clear hd hh hn hx
        have HM := Lib.hid hmap; clear hmap
        have HPT := Lib.hid hpts; clear hpts
        rw [hc]
        clear hc
        by_cases h1 : a < 0
        · go_wp2
          go_ret
          exact ⟨rfl, BY.out⟩
        · by_cases h2 : b < 0
          · go_wp2
            go_ret
            exact ⟨rfl, BY.out⟩
          · by_cases h3 : (N : Int) ≤ a
            · go_wp2
              go_ret
              exact ⟨rfl, BY.out⟩
            · by_cases h4 : (N : Int) ≤ b
              · go_wp2
                go_ret
                exact ⟨rfl, BY.out⟩
              · obtain ⟨A, rfl⟩ : ∃ A : Nat, a = (A : Int) := ⟨a.toNat, by omega⟩
                obtain ⟨B, rfl⟩ : ∃ B : Nat, b = (B : Int) := ⟨b.toNat, by omega⟩
                have hA : A < N := by omega
                have hB : B < N := by omega
                obtain ⟨m, hm1, hm2⟩ := HD.out.2 A hA
                obtain ⟨k, hk1, hk2⟩ := HD.out.2 B hB
                have hma : m ≤ A := hm2.lea
                have hmN : m < N := by omega
                obtain ⟨m', hs1, hs2⟩ := HD.out.2 m hmN
                have e' : m' = m := hs2.unique hm2.self
                subst e'
                have hmk : m' = k ↔ Mut (toL (toN l)) A B := hm2.same hk2
                have HMK := Lib.hid hmk; clear hmk
                have EL : Hid (EsAt w2 v ((toN l).map castP)) := Lib.hid (by rw [HM.out]; exact HL.out.below BY.out)
                obtain ⟨gx, ox, rfl, hgx, q0⟩ := HX.out.get hm1
                obtain ⟨gy, oy, e2, _, q1⟩ := HX.out.get hk1
                injection e2 with e2
                injection e2 with e3 e4 _
                subst e3 e4
                obtain ⟨gz, oz, e2, _, q2⟩ := HX.out.get hs1
                injection e2 with e2
                injection e2 with e3 e4 _
                subst e3 e4
                clear hm1 hk1 hs1 hs2 hm2 hk2 h60 hg
                go_wp2_with fail
                (with_reducible refine (come_any N A _ EL.out hN hLn HPT.out hA).mono ?_); rintro e w3 ⟨B1, rfl, hr1, b1, hb1⟩
                have r1 := hr1.get (bv_get B1 hB)
                have z1 := hr1.lt
                have EL3 := Lib.hid (EL.out.below b1)
                have BZ := Lib.hid (BY.out.trans (b1.mono BY.out.size))
                replace q0 := cell_below b1 q0
                replace q1 := cell_below b1 q1
                replace q2 := cell_below b1 q2
                have hgx3 : gx < w3.heap.size := Nat.lt_of_lt_of_le hgx b1.size
                have HB1 := Lib.hid (hb1 B hB)
                clear hr1 b1 hb1
                cases hb1 : B1 B with
                | false =>
                  have hne : ¬ m' = k := fun e => by
                    have := (HB1.out).2 (HMK.out.1 e).1
                    rw [hb1] at this
                    cases this
                  have d1 : decide ((m' : Int) = (k : Int)) = false := by simp; omega
                  have d2 : ((m' : Int) == (k : Int)) = false := by simpa using d1
                  rw [hb1] at r1
                  clear hb1
                  go_wp2_with fail
                  go_quiet (fail)
                  go_wp2
                  go_ret
                  exact ⟨rfl, (by repeat (first | exact BW.out | exact BZ.out | (with_reducible refine below_drewN ?_ _) | (with_reducible refine Below.drew ?_)))⟩
                | true =>
                  rw [hb1] at r1
                  go_wp2_with fail
                  (with_reducible refine (come_any N B _ EL3.out hN hLn HPT.out hB).mono ?_); rintro e w4 ⟨B2, rfl, hr2, b2, hb2⟩
                  have r2 := hr2.get (bv_get B2 hA)
                  have BW := Lib.hid (BZ.out.trans (b2.mono BZ.out.size))
                  replace q0 := cell_below b2 q0
                  replace q1 := cell_below b2 q1
                  replace q2 := cell_below b2 q2
                  have HB2 := Lib.hid (hb2 A hA)
                  clear hr2 b2 hb2 r1
                  cases hb2 : B2 A with
                  | false =>
                    have hne : ¬ m' = k := fun e => by
                      have := (HB2.out).2 (HMK.out.1 e).2
                      rw [hb2] at this
                      cases this
                    have d1 : decide ((m' : Int) = (k : Int)) = false := by simp; omega
                    have d2 : ((m' : Int) == (k : Int)) = false := by simpa using d1
                    rw [hb2] at r2
                    clear hb1 hb2
                    go_wp2_with fail
                    go_quiet (fail)
                    go_wp2
                    go_ret
                    exact ⟨rfl, (by repeat (first | exact BW.out | exact BZ.out | (with_reducible refine below_drewN ?_ _) | (with_reducible refine Below.drew ?_)))⟩
                  | true =>
                    have he : m' = k := HMK.out.2 ⟨HB1.out.1 hb1, HB2.out.1 hb2⟩
                    subst he
                    rw [hb2] at r2
                    clear hb1 hb2
                    go_wp2_with fail
                    go_quiet (fail)
                    go_wp2
                    go_ret
                    exact ⟨rfl, (by repeat (first | exact BW.out | exact BZ.out | (with_reducible refine below_drewN ?_ _) | (with_reducible refine Below.drew ?_)))⟩
      · have hx0 := hn hc
        subst hx0
        obtain ⟨Ax, cx, rfl⟩ := is_form (N := 0) hx rfl
        obtain ⟨c, hcc⟩ : ∃ c, chkI n l = c := ⟨_, rfl⟩
        rw [hcc] at hc ⊢
        have hne1 : (c != 0) = true := by simpa using hc
        have hne2 : (c == 0) = false := by simpa using hc
        clear hcc hh hn hx
        go_wp2
        go_ret
        exact ⟨rfl, BY.out⟩

/-! ### THE ROW's STEP -/
theorem own : ownKnob Try.prog.godebug = none := by kernel_rfl

theorem laidOut : laidOutB Try.prog = true := by kernel_rfl

set_option maxRecDepth 100000 in
theorem lifted (os : Os) (started : os.Started) (H : Type) (enc : TypeId × Value → H) :
    ReturnsInHanded {} Try.checked os 3 .any (Rows.knotBothSpec.pre6 enc Try.prog Try.f3 Rows.knotBothRow.domain false) (Rows.knotBothSpec.post enc Try.prog Try.f3 false true false false) := by
  refine returnsInHanded_of_change (C := Try.checked) own started (by kernel_rfl) Try.func3
    (ChangeSpec.witness6 (enc := enc) (C := Try.checked) false ⟨#[], #[.int .i64 0, .slice none 0 0, .int .i64 0, .int .i64 0], []⟩ 8 (by kernel_rfl) (by kernel_rfl) (by kernel_rfl) (by kernel_rfl)) ?_
  intro W base args ds gs before hval0 hW hcnd _
  have hval : ∀ (j : Nat) t v, Try.f3.params[j]? = some t → args[j]? = some v → Value.okWide Try.prog W .any base t v := hval0
  have hW' := hW
  obtain ⟨p, q, hA0, hV, rfl, hfz, hnd⟩ := hW
  have hA : DataW.TrodAll enc Try.prog W 0 (fun _ => true) true Try.f3.params.toList args.toList ds p := hA0
  rw [Try.params3] at hA hval
  obtain ⟨v0, vs0, d0, ds0, p0, q0, hargs, rfl, rfl, h0, r0⟩ := trodAll_cons hA
  obtain ⟨v1, vs1, d1, ds1, p1, q1, rfl, rfl, rfl, h1, r1⟩ := trodAll_cons r0
  obtain ⟨v2, vs2, d2, ds2, p2, q2, rfl, rfl, rfl, h2, r2⟩ := trodAll_cons r1
  obtain ⟨v3, vs3, d3, ds3, p3, q3, rfl, rfl, rfl, h3, r3⟩ := trodAll_cons r2
  obtain ⟨rfl, rfl, rfl⟩ := trodAll_nil r3
  obtain rfl : args = #[v0, v1, v2, v3] := by cases args; simp_all
  obtain ⟨rfl, rfl⟩ := trodVars_none hV
  obtain ⟨a0, rfl, rfl, rfl, w0⟩ := open_int Try.underlying3 (hval 0 3 v0 rfl rfl) h0
  obtain ⟨l1, hl1⟩ := open_edges (hval 1 22 v1 rfl rfl) h1
  obtain ⟨a2, rfl, rfl, rfl, w2⟩ := open_int Try.underlying3 (hval 2 3 v2 rfl rfl) h2
  obtain ⟨a3, rfl, rfl, rfl, w3⟩ := open_int Try.underlying3 (hval 3 3 v3 rfl rfl) h3
  refine (core a0 a2 a3 W hl1).mono fun e W' ⟨he, hg⟩ => ?_
  subst he
  exact ⟨_, rfl, law_post laidOut (by
    intro t ht
    simp only [Try.params3, List.mem_cons, List.not_mem_nil, or_false] at ht
    rcases ht with rfl | rfl | rfl | rfl <;> exact ⟨by kernel_rfl, of_decide_eq_true (by kernel_rfl)⟩) rfl rfl Try.underlying4 rfl hW' hg⟩

theorem over : Rows.knotBothRow.holds Try.pinned (OpenSpec.ofChange Rows.knotBothSpec) :=
  OpenClaim.holds_of_wide 3 Try.f3 rfl rfl rfl rfl rfl rfl rfl ⟨rfl, rfl, rfl, rfl, rfl⟩ rfl rfl rfl rfl rfl (by kernel_rfl) Try.func3 (by kernel_rfl)
    (of_decide_eq_true (by kernel_rfl)) (by unfold Func.isWrapper; first | (rw [if_pos (by decide +kernel)]; kernel_rfl) | (rw [if_neg (by decide +kernel)]; exact ⟨rfl, rfl⟩))
    (fun os started H enc _ => lifted os started H enc)

theorem proved : Rows.KnotBothSaid :=
  over
#print axioms proved

end Go.Proofs.Ytkmbjpgpkgeiaaa.knotBoth

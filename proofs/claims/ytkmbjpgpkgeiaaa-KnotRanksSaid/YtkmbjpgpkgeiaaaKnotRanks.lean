/- KnotRanks: an arrow leads within a knot or to one of a lesser rank, and one with a rank has an arrow to one of just one less, at every graph, arrow and point; the call answers true, and what is handed in reads as before. No condition. -/
import Derived.Test.YtkmbjpgpkgeiaaaRows
import Derived.WalkKit
import Derived.ProofKit
import Derived.OpenShut
import Derived.Below
import Derived.Outline
import Derived.LoopTactic
import Derived.Lib.Hide
import Derived.WalkSpells
import Derived.RegionTactic
import Derived.BigRegion
import Derived.Deep.QuietTactic
import Derived.BigQuiet
import Derived.Deep.RegionWith
import Derived.Test.YtkmbjpgpkgeiaaaO
import Derived.Test.YtkmbjpgpkgeiaaaG
import Derived.Test.YtkmbjpgpkgeiaaaF1
import Derived.Deep.CutRange
namespace Go.Proofs.Ytkmbjpgpkgeiaaa.knotRanks
open Go.Joins Go.ChangeShapes Go.WideShapes Go.ChangeAt Go.RowKit Go.Deep
set_option linter.unusedVariables false

theorem great_at {l : List (Int × Int)} {v : Value} {n : Int} {b : Bool} (h : greatB n l = b) (w : World) (hl : EsAt w v l) : Calls Try.prog 9 #[.int .i64 n, v] w fun e w' => e = .returned (.bool b) ∧ w = w' := by
  subst h
  exact great_any n w hl
theorem is_form {w : World} {v : Value} {l : List Int} {N : Nat} (h : IsAt w v l) (hl : l.length = N) : ∃ A c, v = .slice A N c := by
  obtain ⟨A, c, rfl, _, _⟩ := h
  exact ⟨A, c, by rw [hl]⟩
def TrueP (w : World) (e : Ending) (w' : World) : Prop := e = .returned (.bool true) ∧ Below w.heap.size w w'

theorem head_fn {tq : Nat → List Nat} {n : Nat} {x : List Int} (h : HeadL tq n x) : ∃ hd : Nat → Nat, ∀ a, a < n → x[a]? = some ((hd a : Nat) : Int) ∧ IsHead tq a (hd a) :=
  ⟨fun a => (x.getD a 0).toNat, fun a ha => by
    obtain ⟨m, h1, h2⟩ := h.2 a ha
    have e : (x.getD a 0).toNat = m := by rw [List.getD_eq_getElem?_getD, h1]; simp
    simp only [e]
    exact ⟨h1, h2⟩⟩
theorem no_next {L : List (Nat × Nat)} {n A : Nat} {x : List Int} {hd r : Nat → Nat} (h : IsRanks (toL L) n r) (hh : ∀ a, a < n → x[a]? = some ((hd a : Nat) : Int) ∧ IsHead (toL L) a (hd a)) (hA : A < n) (h0 : r A ≠ 0) (hlt : ∀ a b, b ∈ toL L a → b < n) : ¬ ∀ p ∈ L, ¬ (hd p.1 = hd A ∧ hd p.2 ≠ hd A ∧ r p.2 + 1 = r A) := by
  intro hno
  rcases h.tight A hA with h1 | ⟨y, b, h1, h2, h3, h4⟩
  · exact h0 h1
  · have hy : y < n := reach_lt hlt hA h1.1
    have hb : b < n := hlt y b h2
    have e1 : hd y = hd A := ((hh y hy).2.same (hh A hA).2).2 h1.symm
    have e2 : hd b ≠ hd A := fun e => h3 (((hh y hy).2.same (hh b hb).2).1 (e1.trans e.symm))
    exact hno (y, b) (mem_to.1 h2) ⟨e1, e2, h4.symm⟩
theorem is_cell {w : World} {g o n c i : Nat} {l : List Int} {x : Int} (h : IsAt w (.slice (some ⟨g, o, none⟩) n c) l) (hi : l[i]? = some x) : w.cell? ⟨g, o + i, none⟩ = some (.int .i64 x) := by
  obtain ⟨g', o', e, _, hc⟩ := h.get hi
  injection e with e
  injection e with e1 e2 _
  subst e1 e2
  exact hc
theorem is_full {w : World} {v : Value} {l : List Int} {N : Nat} (h : IsAt w v l) (hl : l.length = N) (h0 : 0 < N) : ∃ g o c, v = .slice (some ⟨g, o, none⟩) N c := by
  obtain ⟨A, c, rfl⟩ := is_form h hl
  obtain ⟨g, o, e, _, _⟩ := h.get (List.getElem?_eq_getElem (i := 0) (by omega))
  exact ⟨g, o, c, by rw [e]⟩
set_option maxRecDepth 100000 in
set_option maxHeartbeats 16000000 in
theorem core {l : List (Int × Int)} {v : Value} (n at' a : Int) (w : World) (hl : EsAt w v l) : Calls Try.prog 4 #[.int .i64 n, v, .int .i64 at', .int .i64 a] w (TrueP w) := by
  obtain ⟨Al, cl, rfl, hmx, _⟩ : ∃ A c, v = .slice A l.length c ∧ l.length ≤ 9223372036854775807 ∧ True := by
    obtain ⟨A, c, h1, h2, _⟩ := hl
    exact ⟨A, c, h1, h2, trivial⟩
  have HL := Lib.hid hl; clear hl
  go_enter Try.func4, Try.ntmps4
  go_wp2_with fail
  (with_reducible refine (alive_any _).mono ?_); rintro e w1 ⟨rfl, h1⟩
  have BX := Lib.hid h1; clear h1
  cases hg : greatB n l with
  | true =>
    go_wp2_with fail
    (with_reducible refine (great_at hg _ (HL.out.below BX.out)).mono ?_); rintro e _ ⟨rfl, rfl⟩
    go_wp2
    go_ret
    exact ⟨rfl, BX.out⟩
  | false =>
    by_cases h60 : 60 < n
    · go_wp2_with fail
      (with_reducible refine (great_at hg _ (HL.out.below BX.out)).mono ?_); rintro e _ ⟨rfl, rfl⟩
      go_wp2
      go_ret
      exact ⟨rfl, BX.out⟩
    · go_wp2_with fail
      (with_reducible refine (great_at hg _ (HL.out.below BX.out)).mono ?_); rintro e _ ⟨rfl, rfl⟩
      go_wp2_with fail
      (with_reducible refine (heads_any n _ (HL.out.below BX.out)).mono ?_); rintro e w2 ⟨hv, x, rfl, hx, h2, hn, hh⟩
      have BY := Lib.hid (BX.out.trans (h2.mono BX.out.size)); clear h2
      go_wp2_with fail
      (with_reducible refine (ranks_any n _ (HL.out.below BY.out)).mono ?_); rintro e w3 ⟨rv, y, rfl, hy, h3, hn2, hh2⟩
      have BZ := Lib.hid (BY.out.trans (h3.mono BY.out.size))
      replace hx := hx.below h3
      clear h3
      by_cases hc : chkI n l = 0
      · obtain ⟨N, rfl, hN, hLn, hmap, hpts⟩ := chk_ok hc
        obtain ⟨hd, hh'⟩ := head_fn (hh N rfl hc)
        have hxl := (hh N rfl hc).1
        obtain ⟨hyl, r, hr1, hr2, hr3⟩ := hh2 N rfl hc
        have HH := Lib.hid hh'; clear hh'
        have HIS := Lib.hid hr1; clear hr1
        have HRK := Lib.hid (And.intro hr2 hr3); clear hr2 hr3
        have HM := Lib.hid hmap; clear hmap
        have HPT := Lib.hid hpts; clear hpts
        have HLTT : Hid (∀ a b, b ∈ toL (toN l) a → b < N) := to_lt HPT.out
        have HLE : Hid ((toN l).length = l.length) := by unfold Hid; simp [toN]
        have hl1 : l.length ≤ 10000 := by rw [← HLE.out]; exact hLn
        have HL3 := Lib.hid (HL.out.below BZ.out)
        rw [hc]
        clear hc hh hh2 hn hn2 hg h60
        rcases Nat.eq_zero_or_pos N with h0 | h0
        · subst h0
          obtain ⟨Ax, cx, rfl⟩ := is_form hx hxl
          obtain ⟨Ay, cy, rfl⟩ := is_form hy hyl
          have hl0 : l.length = 0 := by
            rw [← HLE.out]
            cases e : toN l with
            | nil => rfl
            | cons p q =>
              have := (HPT.out p (by rw [e]; simp)).1
              omega
          have HL0 := Lib.hid hl0
          have n1 : ¬ (at' < (l.length : Int) ∧ 0 ≤ at') := by omega
          by_cases hat : 0 ≤ at'
          · have n2 : ¬ (at' < (l.length : Int)) := by omega
            clear hl0 n1
            by_cases h3 : a < 0
            · go_wp2
              go_ret
              exact ⟨rfl, BZ.out⟩
            · have h4 : ((0 : Nat) : Int) ≤ a := by omega
              go_wp2
              go_ret
              exact ⟨rfl, BZ.out⟩
          · clear hl0 n1
            by_cases h3 : a < 0
            · go_wp2
              go_ret
              exact ⟨rfl, BZ.out⟩
            · have h4 : ((0 : Nat) : Int) ≤ a := by omega
              go_wp2
              go_ret
              exact ⟨rfl, BZ.out⟩
        · obtain ⟨gx, ox, cx, rfl⟩ := is_full hx hxl h0
          obtain ⟨gy, oy, cy, rfl⟩ := is_full hy hyl h0
          have HX := Lib.hid hx
          have HY := Lib.hid hy
          clear hx hy hxl hyl
          have hlp : (0 : Int) ≤ (l.length : Int) := by omega
          obtain ⟨q78, hq78⟩ : ∃ q, decide (0 ≤ at' ∧ at' < (l.length : Int)) = q := ⟨_, rfl⟩
          go_upto_region 8 with fail
          go_cut [78] from 71 to 78 (fun s wx => s = .bool q78 ∧ wx = w3)
          case first =>
            by_cases hat : 0 ≤ at'
            · by_cases hat2 : at' < (l.length : Int)
              · obtain rfl : q78 = true := by rw [← hq78]; simp [hat, hat2]
                clear hq78
                go_wp2
                go_meet
                exact ⟨rfl, rfl⟩
              · obtain rfl : q78 = false := by rw [← hq78]; simp [hat2]
                clear hq78
                go_wp2
                go_meet
                exact ⟨rfl, rfl⟩
            · obtain rfl : q78 = false := by rw [← hq78]; simp [hat]
              clear hq78
              go_wp2
              go_meet
              exact ⟨rfl, rfl⟩
          case rest =>
            obtain ⟨rfl, rfl⟩ := hcut
            obtain ⟨wo, rfl⟩ : ∃ wo : World, wo = wc := ⟨_, rfl⟩
            go_upto_if 78 with fail
            go_cut [14, 15] from 79 to 130 (fun _ _ wx => Below wo.heap.size wo wx)
            case first =>
              by_cases hin : 0 ≤ at' ∧ at' < (l.length : Int)
              · obtain rfl : q78 = true := by rw [← hq78]; exact decide_eq_true hin
                clear hq78
                obtain ⟨hat, hat2⟩ := hin
                obtain ⟨K, rfl⟩ : ∃ K : Nat, at' = (K : Int) := ⟨at'.toNat, by omega⟩
                have hK : K < l.length := by omega
                obtain ⟨p, hp⟩ : ∃ p, (toN l)[K]? = some p := ⟨_, List.getElem?_eq_getElem (by rw [HLE.out]; exact hK)⟩
                have hpn := HPT.out p (List.mem_of_getElem? hp)
                have hpm := List.mem_of_getElem? hp
                have hpl : l[K]? = some (castP p) := by rw [← HM.out, List.getElem?_map, hp]; rfl
                obtain ⟨gl, ol, rfl, hgl, q0, q1⟩ := HL3.out.get hpl
                obtain ⟨sx, sy⟩ := p
                obtain ⟨hsx, hsy⟩ := hpn
                simp only [castP] at q0 q1 hsx hsy
                have u0 := is_cell HX.out ((HH.out sx hsx).1)
                have u1 := is_cell HX.out ((HH.out sy hsy).1)
                have t0 := is_cell HY.out ((HRK.out).1 sx hsx)
                have t1 := is_cell HY.out ((HRK.out).1 sy hsy)
                have hmem : sy ∈ toL (toN l) sx := mem_to.2 hpm
                have hsame := (HH.out sx hsx).2.same (HH.out sy hsy).2
                clear hp hpl hpm
                by_cases hmut : Mut (toL (toN l)) sx sy
                · have e1 := hsame.2 hmut
                  have e2 := HIS.out.same sx sy hsx hmut
                  rw [e1] at u0
                  rw [e2] at t0
                  clear e1 e2 hmut hsame hmem
                  obtain ⟨m1, hm1⟩ : ∃ m, hd sy = m := ⟨_, rfl⟩
                  obtain ⟨m2, hm2⟩ : ∃ m, r sy = m := ⟨_, rfl⟩
                  rw [hm1] at u0 u1
                  rw [hm2] at t0 t1
                  clear hm1 hm2
                  go_wp2_with fail
                  go_quiet (fail)
                  go_wp2_with fail
                  go_quiet (fail)
                  go_wp2
                  go_meet
                  exact (by repeat (first | exact Below.refl _ _ | (with_reducible refine below_drewN ?_ _) | (with_reducible refine Below.drew ?_)))
                · have e1 : ¬ hd sx = hd sy := fun e => hmut (hsame.1 e)
                  have e2 := HIS.out.less sx sy hsx hmem hmut
                  clear hmut hsame hmem
                  obtain ⟨m1, hm1⟩ : ∃ m, hd sx = m := ⟨_, rfl⟩
                  obtain ⟨m2, hm2⟩ : ∃ m, hd sy = m := ⟨_, rfl⟩
                  obtain ⟨m3, hm3⟩ : ∃ m, r sx = m := ⟨_, rfl⟩
                  obtain ⟨m4, hm4⟩ : ∃ m, r sy = m := ⟨_, rfl⟩
                  rw [hm1] at u0 e1
                  rw [hm2] at u1 e1
                  rw [hm3] at t0 e2
                  rw [hm4] at t1 e2
                  clear hm1 hm2 hm3 hm4
                  have ga : ¬ ((m1 : Int)) = ((m2 : Int)) := by omega
                  have gb : decide (((m1 : Int)) = ((m2 : Int))) = false := by simpa using ga
                  have gc : (((m1 : Int)) == ((m2 : Int))) = false := by simpa using ga
                  have gd : (((m1 : Int)) != ((m2 : Int))) = true := by simpa using ga
                  have j1 : ¬ ((m3 : Int) ≤ (m4 : Int)) := by omega
                  have j2 : decide ((m3 : Int) ≤ (m4 : Int)) = false := by simpa using j1
                  clear e1 e2
                  go_wp2_with fail
                  go_quiet (fail)
                  go_wp2_with fail
                  go_quiet (fail)
                  go_wp2
                  go_meet
                  exact (by repeat (first | exact Below.refl _ _ | (with_reducible refine below_drewN ?_ _) | (with_reducible refine Below.drew ?_)))
              · obtain rfl : q78 = false := by rw [← hq78]; exact decide_eq_false hin
                clear hq78 hin
                go_wp2
                go_meet
                exact Below.refl _ _
            case rest =>
              have BC := Lib.hid hcut
              clear hcut
              by_cases h3 : a < 0
              · skip
                go_wp2
                go_ret
                exact ⟨rfl, (by repeat (first | exact (BZ.out.trans (BC.out.mono BZ.out.size)) | (with_reducible refine below_drewN ?_ _) | (with_reducible refine Below.drew ?_)))⟩
              · by_cases h4 : (N : Int) ≤ a
                · skip
                  go_wp2
                  go_ret
                  exact ⟨rfl, (by repeat (first | exact (BZ.out.trans (BC.out.mono BZ.out.size)) | (with_reducible refine below_drewN ?_ _) | (with_reducible refine Below.drew ?_)))⟩
                · obtain ⟨A, rfl⟩ : ∃ A : Nat, a = (A : Int) := ⟨a.toNat, by omega⟩
                  have hA : A < N := by omega
                  have yA := cell_below BC.out (is_cell HY.out ((HRK.out).1 A hA))
                  have yA0 := Lib.hid (is_cell HY.out ((HRK.out).1 A hA))
                  obtain ⟨ra, hra⟩ : ∃ ra, r A = ra := ⟨_, rfl⟩
                  have hrb : ra ≤ 1000 := by have := HRK.out.2 A hA; omega
                  have HRA := Lib.hid hra
                  rw [hra] at yA
                  clear hra
                  skip
                  go_wp2_with fail
                  have hz : decide (N ≤ A) = false := by simpa using hA
                  try simp only [hz, Bool.or_false]
                  clear hz
                  go_loopw [16, 17] (fun t i wr => ∃ (k : Nat) (c : Bool), k ≤ l.length ∧ i = .int .i64 k ∧ t = .bool c ∧ (c = true ∨ (ra ≠ 0 ∧ ∀ p ∈ (toN l).take k, ¬ (hd p.1 = hd A ∧ hd p.2 ≠ hd A ∧ r p.2 + 1 = ra))) ∧ Below wo.heap.size wo wr) (fun _ i _ => l.length - (intOf i).toNat)
                  case atStart => exact ⟨0, _, Nat.zero_le _, rfl, rfl, (by by_cases h : ra = 0 <;> simp [h]), (by repeat (first | exact BC.out | (with_reducible refine below_drewN ?_ _) | (with_reducible refine Below.drew ?_)))⟩
                  case round =>
                    obtain ⟨k, c, hk, rfl, rfl, hc, hb⟩ := hrel
                    have HBL := Lib.hid hb; clear hb
                    have HC := Lib.hid hc; clear hc
                    have xA := cell_below HBL.out (is_cell HX.out ((HH.out A hA).1))
                    replace yA := cell_below HBL.out (yA0.out)
                    rw [HRA.out] at yA
                    by_cases hlt : k < l.length
                    · have HLT := Lib.hid hlt
                      obtain ⟨p, hp⟩ : ∃ p, (toN l)[k]? = some p := ⟨_, List.getElem?_eq_getElem (by rw [HLE.out]; exact hlt)⟩
                      have HP := Lib.hid hp
                      have hpn := HPT.out p (List.mem_of_getElem? hp)
                      have hpl : l[k]? = some (castP p) := by rw [← HM.out, List.getElem?_map, hp]; rfl
                      obtain ⟨gl, ol, rfl, hgl, q0, q1⟩ := HL3.out.get hpl
                      replace q0 := cell_below HBL.out q0
                      replace q1 := cell_below HBL.out q1
                      obtain ⟨px, py⟩ := p
                      obtain ⟨hpx, hpy⟩ := hpn
                      simp only [castP] at q0 q1 hpx hpy
                      have xx := cell_below HBL.out (is_cell HX.out ((HH.out px hpx).1))
                      have xy := cell_below HBL.out (is_cell HX.out ((HH.out py hpy).1))
                      have yy := cell_below HBL.out (is_cell HY.out ((HRK.out).1 py hpy))
                      clear hp hpl
                      obtain ⟨mA, hmA⟩ : ∃ m, hd A = m := ⟨_, rfl⟩
                      obtain ⟨mx, hmx⟩ : ∃ m, hd px = m := ⟨_, rfl⟩
                      obtain ⟨my, hmy⟩ : ∃ m, hd py = m := ⟨_, rfl⟩
                      obtain ⟨ry, hry⟩ : ∃ m, r py = m := ⟨_, rfl⟩
                      have hryb : ry ≤ 1000 := by have := HRK.out.2 py hpy; omega
                      rw [hmA] at xA
                      rw [hmx] at xx
                      rw [hmy] at xy
                      rw [hry] at yy
                      cases c with
                      | true =>
                        clear hmA hmx hmy hry
                        go_wp2_with fail
                        go_quiet (fail)
                        go_wp2
                        go_roundw
                        case rel => exact ⟨k + 1, true, HLT.out, by go_num, rfl, .inl rfl, (by repeat (first | exact HBL.out | (with_reducible refine below_drewN ?_ _) | (with_reducible refine Below.drew ?_)))⟩
                        case measure => have := HLT.out; simp [intOf]; omega
                      | false =>
                        obtain ⟨hr0, hnx⟩ : ra ≠ 0 ∧ ∀ p ∈ (toN l).take k, ¬ (hd p.1 = hd A ∧ hd p.2 ≠ hd A ∧ r p.2 + 1 = ra) := HC.out.resolve_left (by simp)
                        have HNX := Lib.hid hnx; clear hnx
                        by_cases e1 : mx = mA
                        · subst e1
                          by_cases e2 : my = mx
                          · subst e2
                            have HNO : Hid (¬ (hd px = hd A ∧ hd py ≠ hd A ∧ r py + 1 = ra)) := fun h => h.2.1 (hmy.trans hmA.symm)
                            clear hmA hmx hmy hry
                            go_wp2_with fail
                            go_quiet (fail)
                            go_wp2
                            go_roundw
                            case rel => exact ⟨k + 1, false, HLT.out, by go_num, rfl, .inr ⟨hr0, take_more HP.out HNX.out HNO.out⟩, (by repeat (first | exact HBL.out | (with_reducible refine below_drewN ?_ _) | (with_reducible refine Below.drew ?_)))⟩
                            case measure => have := HLT.out; simp [intOf]; omega
                          · have da : ¬ ((my : Int)) = ((mx : Int)) := by omega
                            have db : decide (((my : Int)) = ((mx : Int))) = false := by simpa using da
                            have dc : (((my : Int)) == ((mx : Int))) = false := by simpa using da
                            have dd : (((my : Int)) != ((mx : Int))) = true := by simpa using da
                            by_cases e3 : ry + 1 = ra
                            · have f1 : (ry : Int) = (ra : Int) - 1 := by omega
                              have f2 : decide ((ry : Int) = (ra : Int) - 1) = true := by simpa using f1
                              have f3 : ((ry : Int) == (ra : Int) - 1) = true := by simpa using f1
                              clear hmA hmx hmy hry e2 e3
                              go_wp2_with fail
                              go_quiet (fail)
                              go_wp2
                              go_roundw
                              case rel => exact ⟨k + 1, true, HLT.out, by go_num, rfl, .inl rfl, (by repeat (first | exact HBL.out | (with_reducible refine below_drewN ?_ _) | (with_reducible refine Below.drew ?_)))⟩
                              case measure => have := HLT.out; simp [intOf]; omega
                            · have HNO : Hid (¬ (hd px = hd A ∧ hd py ≠ hd A ∧ r py + 1 = ra)) := fun h => e3 (by rw [← hry]; exact h.2.2)
                              have fa : ¬ ((ry : Int)) = ((ra : Int) - 1) := by omega
                              have fb : decide (((ry : Int)) = ((ra : Int) - 1)) = false := by simpa using fa
                              have fc : (((ry : Int)) == ((ra : Int) - 1)) = false := by simpa using fa
                              have fd : (((ry : Int)) != ((ra : Int) - 1)) = true := by simpa using fa
                              clear hmA hmx hmy hry e2 e3
                              go_wp2_with fail
                              go_quiet (fail)
                              go_wp2
                              go_roundw
                              case rel => exact ⟨k + 1, false, HLT.out, by go_num, rfl, .inr ⟨hr0, take_more HP.out HNX.out HNO.out⟩, (by repeat (first | exact HBL.out | (with_reducible refine below_drewN ?_ _) | (with_reducible refine Below.drew ?_)))⟩
                              case measure => have := HLT.out; simp [intOf]; omega
                        · have HNO : Hid (¬ (hd px = hd A ∧ hd py ≠ hd A ∧ r py + 1 = ra)) := fun h => e1 (hmx.symm.trans (h.1.trans hmA))
                          have da : ¬ ((mx : Int)) = ((mA : Int)) := by omega
                          have db : decide (((mx : Int)) = ((mA : Int))) = false := by simpa using da
                          have dc : (((mx : Int)) == ((mA : Int))) = false := by simpa using da
                          have dd : (((mx : Int)) != ((mA : Int))) = true := by simpa using da
                          clear hmA hmx hmy hry e1
                          go_wp2_with fail
                          go_quiet (fail)
                          go_wp2
                          go_roundw
                          case rel => exact ⟨k + 1, false, HLT.out, by go_num, rfl, .inr ⟨hr0, take_more HP.out HNX.out HNO.out⟩, (by repeat (first | exact HBL.out | (with_reducible refine below_drewN ?_ _) | (with_reducible refine Below.drew ?_)))⟩
                          case measure => have := HLT.out; simp [intOf]; omega
                    · obtain rfl : k = l.length := by omega
                      have hct : c = true := by
                        rcases HC.out with h | ⟨h1, h2⟩
                        · exact h
                        · rw [← HLE.out, List.take_length, ← HRA.out] at h2
                          rw [← HRA.out] at h1
                          exact absurd h2 (no_next HIS.out HH.out hA h1 HLTT.out)
                      subst hct
                      clear HC
                      have h0 : (0 : Int) ≤ (ra : Int) := by omega
                      go_wp2
                      go_ret
                      exact ⟨rfl, BZ.out.trans (HBL.out.mono BZ.out.size)⟩
      · have hx0 := hn hc
        subst hx0
        have hy0 := hn2 hc
        subst hy0
        obtain ⟨Ax, cx, rfl⟩ := is_form (N := 0) hx rfl
        obtain ⟨Ay, cy, rfl⟩ := is_form (N := 0) hy rfl
        obtain ⟨c, hcc⟩ : ∃ c, chkI n l = c := ⟨_, rfl⟩
        rw [hcc] at hc ⊢
        have hne1 : (c != 0) = true := by simpa using hc
        have hne2 : (c == 0) = false := by simpa using hc
        clear hcc hh hn hh2 hn2 hx hy
        go_wp2
        go_ret
        exact ⟨rfl, BZ.out⟩

/-! ### THE ROW's STEP -/
theorem own : ownKnob Try.prog.godebug = none := by kernel_rfl

theorem laidOut : laidOutB Try.prog = true := by kernel_rfl

set_option maxRecDepth 100000 in
theorem lifted (os : Os) (started : os.Started) (H : Type) (enc : TypeId × Value → H) :
    ReturnsInHanded {} Try.checked os 4 .any (Rows.knotRanksSpec.pre6 enc Try.prog Try.f4 Rows.knotRanksRow.domain false) (Rows.knotRanksSpec.post enc Try.prog Try.f4 false true false false) := by
  refine returnsInHanded_of_change (C := Try.checked) own started (by kernel_rfl) Try.func4
    (ChangeSpec.witness6 (enc := enc) (C := Try.checked) false ⟨#[], #[.int .i64 0, .slice none 0 0, .int .i64 0, .int .i64 0], []⟩ 8 (by kernel_rfl) (by kernel_rfl) (by kernel_rfl) (by kernel_rfl)) ?_
  intro W base args ds gs before hval0 hW hcnd _
  have hval : ∀ (j : Nat) t v, Try.f4.params[j]? = some t → args[j]? = some v → Value.okWide Try.prog W .any base t v := hval0
  have hW' := hW
  obtain ⟨p, q, hA0, hV, rfl, hfz, hnd⟩ := hW
  have hA : DataW.TrodAll enc Try.prog W 0 (fun _ => true) true Try.f4.params.toList args.toList ds p := hA0
  rw [Try.params4] at hA hval
  obtain ⟨v0, vs0, d0, ds0, p0, q0, hargs, rfl, rfl, h0, r0⟩ := trodAll_cons hA
  obtain ⟨v1, vs1, d1, ds1, p1, q1, rfl, rfl, rfl, h1, r1⟩ := trodAll_cons r0
  obtain ⟨v2, vs2, d2, ds2, p2, q2, rfl, rfl, rfl, h2, r2⟩ := trodAll_cons r1
  obtain ⟨v3, vs3, d3, ds3, p3, q3, rfl, rfl, rfl, h3, r3⟩ := trodAll_cons r2
  obtain ⟨rfl, rfl, rfl⟩ := trodAll_nil r3
  obtain rfl : args = #[v0, v1, v2, v3] := by cases args; simp_all
  obtain ⟨rfl, rfl⟩ := trodVars_none hV
  obtain ⟨a0, rfl, rfl, rfl, w0⟩ := open_int Try.underlying3 (hval 0 3 v0 rfl rfl) h0
  obtain ⟨l1, hl1⟩ := open_edges (hval 1 22 v1 rfl rfl) h1
  obtain ⟨a2, rfl, rfl, rfl, w2⟩ := open_int Try.underlying3 (hval 2 3 v2 rfl rfl) h2
  obtain ⟨a3, rfl, rfl, rfl, w3⟩ := open_int Try.underlying3 (hval 3 3 v3 rfl rfl) h3
  refine (core a0 a2 a3 W hl1).mono fun e W' ⟨he, hg⟩ => ?_
  subst he
  exact ⟨_, rfl, law_post laidOut (by
    intro t ht
    simp only [Try.params4, List.mem_cons, List.not_mem_nil, or_false] at ht
    rcases ht with rfl | rfl | rfl | rfl <;> exact ⟨by kernel_rfl, of_decide_eq_true (by kernel_rfl)⟩) rfl rfl Try.underlying4 rfl hW' hg⟩

theorem over : Rows.knotRanksRow.holds Try.pinned (OpenSpec.ofChange Rows.knotRanksSpec) :=
  OpenClaim.holds_of_wide 4 Try.f4 rfl rfl rfl rfl rfl rfl rfl ⟨rfl, rfl, rfl, rfl, rfl⟩ rfl rfl rfl rfl rfl (by kernel_rfl) Try.func4 (by kernel_rfl)
    (of_decide_eq_true (by kernel_rfl)) (by unfold Func.isWrapper; first | (rw [if_pos (by decide +kernel)]; kernel_rfl) | (rw [if_neg (by decide +kernel)]; exact ⟨rfl, rfl⟩))
    (fun os started H enc _ => lifted os started H enc)

theorem proved : Rows.KnotRanksSaid :=
  over
#print axioms proved

end Go.Proofs.Ytkmbjpgpkgeiaaa.knotRanks

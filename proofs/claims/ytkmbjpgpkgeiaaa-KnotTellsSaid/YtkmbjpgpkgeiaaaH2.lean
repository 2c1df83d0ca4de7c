/- The contract of Ranks. -/
import Derived.Test.YtkmbjpgpkgeiaaaRows
import Derived.WalkKit
import Derived.ProofKit
import Derived.OpenShut
import Derived.Below
import Derived.Outline
import Derived.LoopTactic
import Derived.Lib.Hide
import Derived.WalkSpells
import Derived.RegionTactic
import Derived.BigRegion
import Derived.Deep.QuietTactic
import Derived.BigQuiet
import Derived.Deep.RegionWith
import Derived.Test.YtkmbjpgpkgeiaaaH1
namespace Go.Proofs.Ytkmbjpgpkgeiaaa
open Go.ChangeShapes Go.WideShapes Go.ChangeAt Go.RowKit
set_option linter.unusedVariables false

attribute [local go_sem ↓] run_min2 run_max2
def rkL (n : Nat) (R : Nat → Nat) : List Int := (List.range n).map (fun i => ((R i : Nat) : Int))
theorem rk_len (n : Nat) (R : Nat → Nat) : (rkL n R).length = n := by simp [rkL]
theorem rk_get {n i : Nat} (R : Nat → Nat) (h : i < n) : (rkL n R)[i]? = some ((R i : Nat) : Int) := by simp [rkL, h]
theorem rk_upd {n k : Nat} (R : Nat → Nat) (v : Nat) (h : k < n) : (rkL n R).set k (v : Int) = rkL n (updR R k v) := by
  apply List.ext_getElem?
  intro i
  by_cases hi : i < n
  · rw [rk_get _ hi]
    by_cases e : k = i
    · subst e
      rw [List.getElem?_set_self (by rw [rk_len]; exact hi), updR_self]
    · rw [List.getElem?_set_ne e, rk_get _ hi, updR_ne _ _ (Ne.symm e)]
  · rw [List.getElem?_eq_none (by simp [rk_len]; omega), List.getElem?_eq_none (by rw [rk_len]; omega)]
theorem rk_zero (n : Nat) : rkL n (fun _ => 0) = List.replicate n 0 := by
  apply List.ext_getElem?
  intro i
  by_cases hi : i < n
  · rw [rk_get _ hi, List.getElem?_replicate, if_pos hi]; rfl
  · rw [List.getElem?_eq_none (by rw [rk_len]; omega), List.getElem?_eq_none (by simp; omega)]
theorem mx_nat (a b : Nat) : mx (a : Int) ((b : Int) + 1) = ((max a (b + 1) : Nat) : Int) := by rw [mx_eq]; omega
theorem rows_at {L : List (Nat × Nat)} {n : Nat} {w w1 : World} {e : Ending} (h : OutP n L w e w1) (hn : n ≤ 1000) : ∃ v : Value, e = .returned v ∧ IssAt w1 v (rowsI n L) ∧ Below w.heap.size w w1 := by
  obtain ⟨g, rfl, hr, _, hb⟩ := h
  have := hr.reads (by rw [rowsI_len]; omega)
  rw [rowsI_len] at this
  exact ⟨_, rfl, this, hb⟩

def RanksP (n : Int) (l : List (Int × Int)) (w : World) (e : Ending) (w' : World) : Prop :=
  ∃ (v : Value) (x : List Int), e = .returned (.tuple #[v, .int .i64 (chkI n l)]) ∧ IsAt w' v x ∧ Below w.heap.size w w' ∧ (chkI n l ≠ 0 → x = []) ∧ ∀ N : Nat, n = (N : Int) → chkI n l = 0 → RankL (toL (toN l)) N x

set_option maxHeartbeats 4000000 in
theorem ranks_any {l : List (Int × Int)} {v : Value} (n : Int) (w : World) (hl : EsAt w v l) : Calls Try.prog 12 #[.int .i64 n, v] w (RanksP n l w) := by
  have HL := Lib.hid hl; clear hl
  by_cases hc : chkI n l = 0
  · obtain ⟨N, rfl, hN, hLn, hmap, hpts⟩ := chk_ok hc
    have HC := Lib.hid hc
    have HLL : Hid (EsAt w v ((toN l).map castP)) := Lib.hid (by rw [hmap]; exact HL.out)
    have HPT := Lib.hid hpts; clear hpts
    go_enter Try.func12, Try.ntmps12
    go_wp2_with (first
      | (go_at_call 19; refine (check_any _ _ (HL.out.below (by repeat (first | exact Below.refl _ _ | (with_reducible refine Below.drew ?_) | refine Below.setCell ?_ (by simp) _ | refine Below.alloc ?_ (by first | omega | (simp; done) | (simp; omega)) _)))).mono ?_; rintro e w1 ⟨rfl, h1⟩; have H1 := Lib.hid h1; clear h1; rw [hc])
      | (go_at_call 20; refine (knots_any N _ (HLL.out.below H1.out) hN hLn HPT.out).mono ?_; rintro e w5 ⟨s, pl, v1, v2, rfl, hi, hk, hp, hpn, hal, hpl, h5⟩; have HI := Lib.hid hi; have HK := Lib.hid hk; have HP := Lib.hid hp; have HPN := Lib.hid hpn; have HAL5 := Lib.hid hal; have HPL5 := Lib.hid hpl; have H5 := Lib.hid (H1.out.trans (h5.mono H1.out.size)); obtain ⟨Aa, ca, rfl, _, _⟩ := hal; obtain ⟨Ap, cp, rfl, _, _⟩ := hpl; clear hi hk hp hpn h5)
      | (go_at_call 22; refine (out_any N _ (HLL.out.below H5.out) hN hLn HPT.out).mono ?_; rintro e wo ho; obtain ⟨vt, rfl, hto, h6⟩ := rows_at ho hN; have HTO := Lib.hid hto; have HAL := Lib.hid (HAL5.out.below h6); have HPL := Lib.hid (HPL5.out.below h6); have H6 := Lib.hid (H5.out.trans (h6.mono H5.out.size)); obtain ⟨At, ct, rfl, _, _⟩ := hto; have HMK : Hid (∀ (W : World), (Instr.makeSlice 25 (.int .i64 ((s.al.map cI).length : Nat)) (.int .i64 ((s.al.map cI).length : Nat))).run Try.prog W = .ok (.slice (some ⟨W.heap.size, 0, none⟩) (s.al.map cI).length (s.al.map cI).length) (W.alloc (.cells (List.replicate (s.al.map cI).length (Value.int .i64 0)).toArray 3))) := (fun W => run_mk (P := Try.prog) Try.underlying25 info3 rfl (by decide) _ (by rw [List.length_map]; have := HI.out.al_le; omega) W); have hmk := HMK.out; rw [List.length_map] at hmk; clear h6 ho))
    have hmkN := fun (W : World) => run_mk (P := Try.prog) Try.underlying25 info3 rfl (by decide) N (by omega) W
    have htl : (rowsI N (toN l)).length = N := rowsI_len _ _
    have HTL := Lib.hid htl; clear htl
    have hall0 : s.al.length ≤ N := HI.out.al_le
    go_loopw [11, 12, 14, 16, 39] (fun _ _ _ _ i wr => ∃ (k : Nat) (R : Nat → Nat), k ≤ s.al.length ∧ i = .int .i64 k ∧ Below wo.heap.size wo wr ∧ Row wr wo.heap.size 3 ((rkL s.al.length R).map iv) ∧ Mid (toL (toN l)) s.al R [] k) (fun _ _ _ _ i _ => s.al.length - (intOf i).toNat)
    case atStart => exact ⟨0, fun _ => 0, Nat.zero_le _, rfl, (Below.refl _ _).alloc (Nat.le_refl _) _, by rw [rk_zero]; have := Row.new wo 3 ((List.replicate s.al.length (0 : Int)).map iv); simpa [iv] using this, Mid.start _⟩
    case round =>
      clear hmk
      obtain ⟨k, R, hk, rfl, hb, hr, hm⟩ := hrel
      have HB := Lib.hid hb; clear hb
      have HR := Lib.hid hr; clear hr
      have HM := Lib.hid hm; clear hm
      by_cases hlt : k < s.al.length
      · have HLT := Lib.hid hlt
        clear hmkN
        obtain ⟨c, hc1⟩ : ∃ c, s.al[k]? = some c := ⟨_, List.getElem?_eq_getElem hlt⟩
        have HCK := Lib.hid hc1
        obtain ⟨ga, oa, Ai, ci, rfl, hga, q1, hic⟩ := HAL.out.get (i := k) (x := cI c) (by rw [List.getElem?_map, hc1]; rfl)
        have HIC := Lib.hid hic; clear hic
        replace q1 := cell_below HB.out q1
        rw [cI_len] at q1 HIC
        have hcln : c.length ≤ 9223372036854775807 := by
          have := HIC.out
          obtain ⟨_, _, _, h1, _⟩ := this
          rw [cI_len] at h1
          exact h1
        have hgar : ga < wr.heap.size := Nat.lt_of_lt_of_le hga HB.out.size
        clear hc1
        go_wp2_with fail
        obtain ⟨wA, rfl⟩ : ∃ wA : World, wA = wr := ⟨_, rfl⟩
        go_loopw [14, 16, 46] (fun _ _ i wr => ∃ (j : Nat) (R : Nat → Nat), j ≤ c.length ∧ i = .int .i64 j ∧ Below wo.heap.size wo wr ∧ Row wr wo.heap.size 3 ((rkL s.al.length R).map iv) ∧ Mid (toL (toN l)) s.al R (pairsOf (toL (toN l)) (c.take j)) k) (fun _ _ i _ => c.length - (intOf i).toNat)
        case atStart => exact ⟨0, R, Nat.zero_le _, rfl, HB.out, HR.out, HM.out⟩
        case round =>
          clear q1 HB HR HM
          obtain ⟨j, R, hj, rfl, hb, hr, hm⟩ := hrel
          have HB := Lib.hid hb; clear hb
          have HR := Lib.hid hr; clear hr
          have HM := Lib.hid hm; clear hm
          by_cases hlt2 : j < c.length
          · have HLT2 := Lib.hid hlt2
            obtain ⟨a, ha⟩ : ∃ a, c[j]? = some a := ⟨_, List.getElem?_eq_getElem hlt2⟩
            have HA := Lib.hid ha
            have HPA : Hid (Plc s.al a k) := ⟨c, HCK.out, List.mem_of_getElem? ha⟩
            have han : a < N := HI.out.lt a (HI.out.alk c (List.mem_of_getElem? HCK.out) a (List.mem_of_getElem? ha)).1
            obtain ⟨gi, oi, rfl, hgi, q2⟩ := HIC.out.get (i := j) (x := (a : Int)) (by simp [cI, ha])
            replace q2 := cell_below HB.out q2
            obtain ⟨gt, ot, Aj, cj, rfl, hgt, q3, hjc⟩ := HTO.out.get (i := a) (x := adjI (toN l) a) (rowsI_get han)
            replace q3 := cell_below HB.out q3
            have HJC := Lib.hid hjc; clear hjc
            rw [adj_to, cI_len] at q3
            have hjl : (adjI (toN l) a).length = (toL (toN l) a).length := by rw [adj_to, cI_len]
            rw [hjl, adj_to] at HJC
            have htln : (toL (toN l) a).length ≤ 10000 := Nat.le_trans (to_len _ a) hLn
            have hatl : a < (rowsI N (toN l)).length := by rw [HTL.out]; exact han
            clear ha hjl
            go_wp2_with fail
            obtain ⟨wB, rfl⟩ : ∃ wB : World, wB = wr := ⟨_, rfl⟩
            go_loopw [16, 55] (fun _ i wr => ∃ (m : Nat) (R : Nat → Nat), m ≤ (toL (toN l) a).length ∧ i = .int .i64 m ∧ Below wo.heap.size wo wr ∧ Row wr wo.heap.size 3 ((rkL s.al.length R).map iv) ∧ Mid (toL (toN l)) s.al R (pairsOf (toL (toN l)) (c.take j) ++ ((toL (toN l) a).take m).map (fun b => (a, b))) k) (fun _ i _ => (toL (toN l) a).length - (intOf i).toNat)
            case atStart => exact ⟨0, R, Nat.zero_le _, rfl, HB.out, HR.out, by simpa using HM.out⟩
            case round =>
              clear q2 q3 HB HR HM
              obtain ⟨m, R, hm0, rfl, hb, hr, hm⟩ := hrel
              have HB := Lib.hid hb; clear hb
              have HR := Lib.hid hr; clear hr
              have HM := Lib.hid hm; clear hm
              by_cases hlt3 : m < (toL (toN l) a).length
              · have HLT3 := Lib.hid hlt3
                obtain ⟨b, hb⟩ : ∃ b, (toL (toN l) a)[m]? = some b := ⟨_, List.getElem?_eq_getElem hlt3⟩
                have HBB := Lib.hid hb
                have HBM := Lib.hid (List.mem_of_getElem? hb)
                have hbn : b < N := to_lt HPT.out a b HBM.out
                obtain ⟨jb, cb, hcb, hbc⟩ := HI.out.plc (HK.out b hbn)
                have HPB : Hid (Plc s.al b jb) := ⟨cb, hcb, hbc⟩
                obtain ⟨gj, oj, rfl, hgj, q4⟩ := HJC.out.get (i := m) (x := (b : Int)) (by simp [cI, hb])
                replace q4 := cell_below HB.out q4
                obtain ⟨gp, op, rfl, hgp, q5⟩ := HPL.out.get (HP.out jb cb hcb b hbc)
                replace q5 := cell_below HB.out q5
                have hbpl : b < pl.length := by rw [HPN.out]; exact hbn
                have hjbl : jb < s.al.length := Inv.plc_lt HPB.out
                have TK : Hid ((toL (toN l) a).take (m + 1) = (toL (toN l) a).take m ++ [b]) := by
                  obtain ⟨h1, h2⟩ := List.getElem?_eq_some_iff.1 hb
                  unfold Hid
                  rw [List.take_succ_eq_append_getElem h1, h2]
                have hall : s.al.length ≤ N := HI.out.al_le
                clear hb hcb hbc
                by_cases hjk : jb = k
                · subst hjk
                  go_wp2
                  go_roundw
                  case rel => exact ⟨m + 1, R, HLT3.out, by go_num, HB.out, HR.out, by rw [TK.out, List.map_append, ← List.append_assoc]; exact HM.out.skip HI.out HPB.out⟩
                  case measure => have := HLT3.out; simp [intOf]; omega
                · have HJK := Lib.hid hjk
                  have d1 : ¬ ((jb : Int) = (k : Int)) := by omega
                  have d2 : ((jb : Int) == (k : Int)) = false := by simpa using d1
                  have d3 : ((jb : Int) != (k : Int)) = true := by simpa using d1
                  have x1 := HR.out.get (j := k) (u := iv (R k : Nat)) (by rw [List.getElem?_map, rk_get _ hlt]; rfl)
                  have x2 := HR.out.get (j := jb) (u := iv (R jb : Nat)) (by rw [List.getElem?_map, rk_get _ hjbl]; rfl)
                  have f0 := HR.out.frozen k
                  have hzl := HR.out.lt
                  obtain ⟨u, hu⟩ : ∃ u, R k = u := ⟨_, rfl⟩
                  obtain ⟨t, ht⟩ : ∃ t, R jb = t := ⟨_, rfl⟩
                  have hul : u ≤ 1000 := by have := HM.out.bnd k; omega
                  have htl : t ≤ 1000 := by have := HM.out.bnd jb; omega
                  rw [hu] at x1
                  rw [ht] at x2
                  have HU := Lib.hid hu
                  have HT := Lib.hid ht
                  simp only [iv] at x1 x2
                  clear hu ht hjk
                  go_wp2_with fail
                  go_region
                  all_goals
                    go_wp2
                    go_roundw
                    case rel => exact ⟨m + 1, updR R k (max (R k) (R jb + 1)), HLT3.out, by go_num, by repeat (first | exact HB.out | (with_reducible refine Below.drew ?_) | refine Below.setCell ?_ (by simp) _), by
                      have hrow := HR.out.set k (.int .i64 (mx (u : Int) ((t : Int) + 1)))
                      rw [mx_nat, ← HU.out, ← HT.out] at hrow ⊢
                      have e : ((rkL s.al.length R).map iv).set k (.int .i64 ((max (R k) (R jb + 1) : Nat) : Int)) = (rkL s.al.length (updR R k (max (R k) (R jb + 1)))).map iv := by rw [← rk_upd _ _ HLT.out, List.map_set]; rfl
                      rw [e] at hrow
                      exact hrow, by rw [TK.out, List.map_append, ← List.append_assoc]; exact HM.out.step HI.out HPA.out HBM.out HPB.out HJK.out⟩
                    case measure => have := HLT3.out; simp [intOf]; omega
              · obtain rfl : m = (toL (toN l) a).length := by omega
                go_wp2
                go_roundw
                case rel => exact ⟨j + 1, R, HLT2.out, by go_num, HB.out, HR.out, by rw [pairs_more c j HA.out]; have := HM.out; rw [List.take_length] at this; exact this⟩
                case measure => have := HLT2.out; simp [intOf]; omega
          · obtain rfl : j = c.length := by omega
            go_wp2
            go_roundw
            case rel => exact ⟨k + 1, R, HLT.out, by go_num, HB.out, HR.out, by have := HM.out; rw [List.take_length] at this; exact this.next HCK.out⟩
            case measure => have := HLT.out; simp [intOf]; omega
      · obtain rfl : k = s.al.length := by omega
        go_wp2_with fail
        obtain ⟨wq, rfl⟩ : ∃ wq : World, wq = wr := ⟨_, rfl⟩
        go_loopw [18, 87] (fun _ i wr => ∃ (k : Nat) (xs : List Int), k ≤ N ∧ i = .int .i64 k ∧ Below wq.heap.size wq wr ∧ Row wr wq.heap.size 3 (xs.map iv) ∧ xs.length = N ∧ ∀ a, a < k → ∀ i, Plc s.al a i → xs[a]? = some ((R i : Nat) : Int)) (fun _ i _ => N - (intOf i).toNat)
        case atStart => exact ⟨0, List.replicate N 0, Nat.zero_le _, rfl, (Below.refl _ _).alloc (Nat.le_refl _) _, by have := Row.new wq 3 ((List.replicate N (0 : Int)).map iv); simpa [iv] using this, by simp, fun a ha => by omega⟩
        case round =>
          clear hmkN
          obtain ⟨k, xs, hk, rfl, hb, hr, hxl, hx⟩ := hrel
          have HB2 := Lib.hid hb; clear hb
          have HR2 := Lib.hid hr; clear hr
          have HX := Lib.hid hx; clear hx
          have HXL := Lib.hid hxl
          by_cases hlt : k < N
          · have HLT := Lib.hid hlt
            obtain ⟨i0, c, hci, hkc⟩ := HI.out.plc (HK.out k hlt)
            have HPI : Hid (Plc s.al k i0) := ⟨c, hci, hkc⟩
            have hil : i0 < s.al.length := Inv.plc_lt HPI.out
            obtain ⟨gp, op, rfl, hgp, q0⟩ := HPL.out.get (HP.out i0 c hci k hkc)
            replace q0 := cell_below HB2.out (cell_below HB.out q0)
            have x1 := cell_below HB2.out (HR.out.get (j := i0) (u := iv (R i0 : Nat)) (by rw [List.getElem?_map, rk_get _ hil]; rfl))
            obtain ⟨u, hu⟩ : ∃ u, R i0 = u := ⟨_, rfl⟩
            rw [hu] at x1
            have HU := Lib.hid hu
            obtain ⟨old, ho⟩ : ∃ y, xs[k]? = some y := ⟨_, List.getElem?_eq_getElem (by omega)⟩
            have u0 := HR2.out.get (j := k) (u := iv old) (by rw [List.getElem?_map, ho]; rfl)
            have f0 := HR2.out.frozen k
            have hzl := HR2.out.lt
            simp only [iv] at u0 x1
            have hpk : k < pl.length := by rw [HPN.out]; exact hlt
            clear ho hci hkc hu
            go_wp2
            go_roundw
            case rel => exact ⟨k + 1, xs.set k (u : Int), HLT.out, by go_num, Below.setCell HB2.out (by simp) _, by rw [List.map_set]; exact HR2.out.set k (iv u), by simp [HXL.out], fun a ha i hi => by
              by_cases e : a = k
              · subst e
                rw [List.getElem?_set_self (by rw [HXL.out]; exact HLT.out), HI.out.plc_u hi HPI.out, HU.out]
              · rw [List.getElem?_set_ne (Ne.symm e)]
                exact HX.out a (by omega) i hi⟩
            case measure => have := HLT.out; simp [intOf]; omega
          · obtain rfl : k = N := by omega
            go_wp2
            refine bodyPost_ret (v := .tuple #[.slice (some ⟨wq.heap.size, 0, none⟩) k k, .int .i64 0]) (by simp [results, Try.results12, go_sem, *]) rfl ?_
            refine ⟨_, xs, by rw [HC.out], HR2.out.isAt HXL.out (by omega), (H6.out.trans (HB.out.mono H6.out.size)).trans (HB2.out.mono (Nat.le_trans H6.out.size HB.out.size)), fun h => absurd HC.out h, fun M hM _ => ?_⟩
            obtain rfl : k = M := by omega
            have hr : ∀ a i, Plc s.al a i → R ((pl.getD a 0).toNat) = R i := fun a i hi => by
              obtain ⟨c, h1, h2⟩ := hi
              rw [List.getD_eq_getElem?_getD, HP.out i c h1 a h2]
              simp
            refine ⟨HXL.out, fun a => R ((pl.getD a 0).toNat), HM.out.ends HI.out (to_lt HPT.out) HK.out hr, fun a ha => ?_, fun a ha => ?_⟩
            · obtain ⟨i, hi⟩ := HI.out.plc (HK.out a ha)
              rw [HX.out a ha i hi]
              simp only [hr a i hi]
            · obtain ⟨i, hi⟩ := HI.out.plc (HK.out a ha)
              simp only [hr a i hi]
              have := HM.out.bnd i
              have := Inv.plc_lt hi
              omega
  · have HC := Lib.hid hc
    obtain ⟨c, hcc⟩ : ∃ c, chkI n l = c := ⟨_, rfl⟩
    have HCC := Lib.hid hcc
    rw [hcc] at hc
    have hne1 : (c != 0) = true := by simpa using hc
    have hne2 : (c == 0) = false := by simpa using hc
    clear hcc
    go_enter Try.func12, Try.ntmps12
    go_wp2_with (go_at_call 19; refine (check_any _ _ (HL.out.below (by repeat (first | exact Below.refl _ _ | (with_reducible refine Below.drew ?_) | refine Below.setCell ?_ (by simp) _ | refine Below.alloc ?_ (by first | omega | (simp; done) | (simp; omega)) _)))).mono ?_; rintro e w1 ⟨rfl, h1⟩; have H1 := Lib.hid h1; clear h1; rw [HCC.out])
    refine bodyPost_ret (v := .tuple #[.slice none 0 0, .int .i64 c]) (by simp [results, Try.results12, go_sem, *]) rfl ?_
    exact ⟨.slice none 0 0, [], by rw [HCC.out], is_nil _, H1.out, fun _ => rfl, fun _ _ h => absurd h HC.out⟩

end Go.Proofs.Ytkmbjpgpkgeiaaa

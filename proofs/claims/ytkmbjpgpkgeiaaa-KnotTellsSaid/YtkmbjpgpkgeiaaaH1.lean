/- The contract of Heads. -/
import Derived.Test.YtkmbjpgpkgeiaaaRows
import Derived.WalkKit
import Derived.ProofKit
import Derived.OpenShut
import Derived.Below
import Derived.Outline
import Derived.LoopTactic
import Derived.Lib.Hide
import Derived.WalkSpells
import Derived.RegionTactic
import Derived.BigRegion
import Derived.Deep.QuietTactic
import Derived.BigQuiet
import Derived.Deep.RegionWith
import Derived.Test.YtkmbjpgpkgeiaaaD
import Derived.Test.YtkmbjpgpkgeiaaaE
namespace Go.Proofs.Ytkmbjpgpkgeiaaa
open Go.ChangeShapes Go.WideShapes Go.ChangeAt Go.RowKit
set_option linter.unusedVariables false

def toN (l : List (Int × Int)) : List (Nat × Nat) := l.map (fun p => (p.1.toNat, p.2.toNat))
theorem chk_ok {n : Int} {l : List (Int × Int)} (h : chkI n l = 0) : ∃ N : Nat, n = (N : Int) ∧ N ≤ 1000 ∧ (toN l).length ≤ 10000 ∧ (toN l).map castP = l ∧ ∀ p ∈ toN l, p.1 < N ∧ p.2 < N := by
  unfold chkI at h
  split at h
  · cases h
  · rename_i h1
    split at h
    · cases h
    · rename_i h2
      have h3 : 0 ≤ n := by omega
      have h4 : ∀ x ∈ l, 0 ≤ x.1 ∧ x.1 < n ∧ 0 ≤ x.2 ∧ x.2 < n := fun x hx => by
        have : oddB n x = false := by
          cases e : oddB n x
          · rfl
          · exact absurd (List.any_eq_true.2 ⟨x, hx, e⟩) (fun e2 => h2 (.inr e2))
        have := odd_split.1 this
        omega
      refine ⟨n.toNat, by omega, by omega, by simp [toN]; omega, ?_, ?_⟩
      · unfold toN
        rw [List.map_map]
        conv => rhs; rw [← List.map_id l]
        apply List.map_congr_left
        intro x hx
        have := h4 x hx
        obtain ⟨a, b⟩ := x
        simp only [Function.comp, castP, id, Prod.mk.injEq]
        omega
      · intro p hp
        simp only [toN, List.mem_map] at hp
        obtain ⟨x, hx, rfl⟩ := hp
        have := h4 x hx
        simp only
        omega
theorem head_at {to : Nat → List Nat} {n i a : Nat} {s : St} {c : List Nat} (h : Inv to n s []) (hlt : ∀ a b, b ∈ to a → b < n) (hk : ∀ x, x < n → x ∈ s.ks) (hc : s.al[i]? = some c) (ha : a ∈ c) : ∃ m : Nat, mnL (cI c) = (m : Int) ∧ IsHead to a m := by
  have h1 : mnL (cI c) ∈ cI c := mnL_mem (fun e => by have : c = [] := by simpa [cI] using e
                                                      subst this
                                                      cases ha)
  have h1' := h1
  simp only [cI, List.mem_map] at h1'
  obtain ⟨m, hm, e⟩ := h1'
  refine ⟨m, e.symm, h.head hlt hk hc ha hm (fun x hx => ?_)⟩
  have : mnL (cI c) ≤ (x : Int) := mnL_le (by simp only [cI, List.mem_map]; exact ⟨x, hx, rfl⟩)
  unfold cI at this
  rw [← e] at this
  omega
theorem Row.isAt {w : World} {g n : Nat} {xs : List Int} (h : Row w g 3 (xs.map iv)) (hn : xs.length = n) (hx : n ≤ 20000) : IsAt w (.slice (some ⟨g, 0, none⟩) n n) xs := by
  subst hn
  refine ⟨_, _, rfl, by omega, fun k x hk => ⟨g, 0, rfl, ?_⟩⟩
  rw [Nat.zero_add]
  exact h.get (by rw [List.getElem?_map, hk]; rfl)

def HeadsP (n : Int) (l : List (Int × Int)) (w : World) (e : Ending) (w' : World) : Prop :=
  ∃ (v : Value) (x : List Int), e = .returned (.tuple #[v, .int .i64 (chkI n l)]) ∧ IsAt w' v x ∧ Below w.heap.size w w' ∧ (chkI n l ≠ 0 → x = []) ∧ ∀ N : Nat, n = (N : Int) → chkI n l = 0 → HeadL (toL (toN l)) N x

set_option maxHeartbeats 4000000 in
theorem heads_any {l : List (Int × Int)} {v : Value} (n : Int) (w : World) (hl : EsAt w v l) : Calls Try.prog 10 #[.int .i64 n, v] w (HeadsP n l w) := by
  have HL := Lib.hid hl; clear hl
  by_cases hc : chkI n l = 0
  · obtain ⟨N, rfl, hN, hLn, hmap, hpts⟩ := chk_ok hc
    have HC := Lib.hid hc
    have HLL : Hid (EsAt w v ((toN l).map castP)) := Lib.hid (by rw [hmap]; exact HL.out)
    have HPT := Lib.hid hpts; clear hpts
    have hmk := fun (W : World) => run_mk (P := Try.prog) Try.underlying25 info3 rfl (by decide) N (by omega) W
    go_enter Try.func10, Try.ntmps10
    go_wp2_with (first
      | (go_at_call 19; refine (check_any _ _ (HL.out.below (by repeat (first | exact Below.refl _ _ | (with_reducible refine Below.drew ?_) | refine Below.setCell ?_ (by simp) _ | refine Below.alloc ?_ (by first | omega | (simp; done) | (simp; omega)) _)))).mono ?_; rintro e w1 ⟨rfl, h1⟩; have H1 := Lib.hid h1; clear h1; rw [hc])
      | (go_at_call 20; refine (knots_any N _ (HLL.out.below H1.out) hN hLn HPT.out).mono ?_; rintro e w5 ⟨s, pl, v1, v2, rfl, hi, hk, hp, hpn, hal, hpl, h5⟩; have HI := Lib.hid hi; have HK := Lib.hid hk; have HP := Lib.hid hp; have HPN := Lib.hid hpn; have HAL := Lib.hid hal; have HPL := Lib.hid hpl; have H5 := Lib.hid (H1.out.trans (h5.mono H1.out.size)); obtain ⟨Aa, ca, rfl, _, _⟩ := hal; obtain ⟨Ap, cp, rfl, _, _⟩ := hpl; clear hi hk hp hpn h5))
    obtain ⟨wo, rfl⟩ : ∃ wo : World, wo = w5 := ⟨_, rfl⟩
    go_loopw [10, 26] (fun _ i wr => ∃ (k : Nat) (xs : List Int), k ≤ N ∧ i = .int .i64 k ∧ Below wo.heap.size wo wr ∧ Row wr wo.heap.size 3 (xs.map iv) ∧ xs.length = N ∧ ∀ a, a < k → ∃ m : Nat, xs[a]? = some (m : Int) ∧ IsHead (toL (toN l)) a m) (fun _ i _ => N - (intOf i).toNat)
    case atStart => exact ⟨0, List.replicate N 0, Nat.zero_le _, rfl, (Below.refl _ _).alloc (Nat.le_refl _) _, by have := Row.new wo 3 ((List.replicate N (0 : Int)).map iv); simpa [iv] using this, by simp, fun a ha => by omega⟩
    case round =>
      clear hmk
      obtain ⟨k, xs, hk, rfl, hb, hr, hxl, hx⟩ := hrel
      have HB := Lib.hid hb; clear hb
      have HR := Lib.hid hr; clear hr
      have HX := Lib.hid hx; clear hx
      have HXL := Lib.hid hxl
      by_cases hlt : k < N
      · have HLT := Lib.hid hlt
        obtain ⟨i0, c, hci, hkc⟩ := HI.out.plc (HK.out k hlt)
        have hil := (List.getElem?_eq_some_iff.1 hci).1
        have hin : i0 < N := by have := HI.out.al_le; omega
        obtain ⟨m, hm, hhd⟩ := head_at HI.out (to_lt HPT.out) HK.out hci hkc
        have HHD := Lib.hid hhd; clear hhd
        obtain ⟨gp, op, rfl, hgp, q0⟩ := HPL.out.get (HP.out i0 c hci k hkc)
        obtain ⟨ga, oa, Ai, ci, rfl, hga, q1, hic⟩ := HAL.out.get (i := i0) (x := cI c) (by rw [List.getElem?_map, hci]; rfl)
        have HIC := Lib.hid (hic.below HB.out); clear hic
        replace q0 := cell_below HB.out q0
        replace q1 := cell_below HB.out q1
        have hcl : 1 ≤ (cI c).length := by rw [cI_len]; exact List.length_pos_iff.2 (fun e => by subst e; cases hkc)
        have HCL := Lib.hid hcl; clear hcl
        have HM := Lib.hid hm
        obtain ⟨old, ho⟩ : ∃ y, xs[k]? = some y := ⟨_, List.getElem?_eq_getElem (by omega)⟩
        have u0 := HR.out.get (j := k) (u := iv old) (by rw [List.getElem?_map, ho]; rfl)
        have f0 := HR.out.frozen k
        have hzl := HR.out.lt
        simp only [iv] at u0
        clear ho hci hkc hm
        have hpk : k < pl.length := by rw [HPN.out]; exact hlt
        have hal1 : i0 < s.al.length := hil
        have hmi : i0 < (s.al.map cI).length := by rw [List.length_map]; exact hil
        go_wp2_with (go_at_call 21; refine (min_any _ (HIC.out.below (by repeat (first | exact Below.refl _ _ | (with_reducible refine Below.drew ?_) | refine Below.setCell ?_ (by simp) _ | refine Below.alloc ?_ (by first | omega | (simp; done) | (simp; omega)) _))) HCL.out).mono ?_; rintro e w7 ⟨rfl, rfl⟩; rw [HM.out])
        go_roundw
        case rel => exact ⟨k + 1, xs.set k (m : Int), HLT.out, by go_num, Below.setCell HB.out (by simp) _, by rw [List.map_set]; exact HR.out.set k (iv m), by simp [HXL.out], fun a ha => by
          by_cases e : a = k
          · subst e
            exact ⟨m, by rw [List.getElem?_set_self (by rw [HXL.out]; exact HLT.out)], HHD.out⟩
          · rw [List.getElem?_set_ne (Ne.symm e)]
            exact HX.out a (by omega)⟩
        case measure => have := HLT.out; simp [intOf]; omega
      · obtain rfl : k = N := by omega
        go_wp2
        refine bodyPost_ret (v := .tuple #[.slice (some ⟨wo.heap.size, 0, none⟩) k k, .int .i64 0]) (by simp [results, Try.results10, go_sem, *]) rfl ?_
        exact ⟨_, xs, by rw [HC.out], HR.out.isAt HXL.out (by omega), H5.out.trans (HB.out.mono H5.out.size), fun h => absurd HC.out h, fun M hM _ => by
          obtain rfl : k = M := by omega
          exact ⟨HXL.out, HX.out⟩⟩
  · have HC := Lib.hid hc
    obtain ⟨c, hcc⟩ : ∃ c, chkI n l = c := ⟨_, rfl⟩
    have HCC := Lib.hid hcc
    rw [hcc] at hc
    have hne1 : (c != 0) = true := by simpa using hc
    have hne2 : (c == 0) = false := by simpa using hc
    clear hcc
    go_enter Try.func10, Try.ntmps10
    go_wp2_with (go_at_call 19; refine (check_any _ _ (HL.out.below (by repeat (first | exact Below.refl _ _ | (with_reducible refine Below.drew ?_) | refine Below.setCell ?_ (by simp) _ | refine Below.alloc ?_ (by first | omega | (simp; done) | (simp; omega)) _)))).mono ?_; rintro e w1 ⟨rfl, h1⟩; have H1 := Lib.hid h1; clear h1; rw [HCC.out])
    refine bodyPost_ret (v := .tuple #[.slice none 0 0, .int .i64 c]) (by simp [results, Try.results10, go_sem, *]) rfl ?_
    exact ⟨.slice none 0 0, [], by rw [HCC.out], is_nil _, H1.out, fun _ => rfl, fun _ _ h => absurd h HC.out⟩

end Go.Proofs.Ytkmbjpgpkgeiaaa

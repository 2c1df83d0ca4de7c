/- The contract of Tied. -/
import Derived.Test.YtkmbjpgpkgeiaaaRows
import Derived.WalkKit
import Derived.ProofKit
import Derived.OpenShut
import Derived.Below
import Derived.Outline
import Derived.LoopTactic
import Derived.Lib.Hide
import Derived.WalkSpells
import Derived.RegionTactic
import Derived.BigRegion
import Derived.Deep.QuietTactic
import Derived.BigQuiet
import Derived.Deep.RegionWith
import Derived.Carry
import Derived.Laws.EntriesVeiled
import Derived.Test.YtkmbjpgpkgeiaaaH1
namespace Go.Proofs.Ytkmbjpgpkgeiaaa
open Go.ChangeShapes Go.WideShapes Go.ChangeAt Go.RowKit
set_option linter.unusedVariables false

def tieI (n : Int) (l : List (Int × Int)) (a : Int) : Int := if chkI n l = 0 then (if a < 0 ∨ n ≤ a then 2 else 0) else chkI n l
theorem below_drewN {B : Nat} {a w : World} (h : Below B a w) : ∀ n : Nat, Below B a (w.drewN n)
  | 0 => h
  | n + 1 => by
    first
      | exact Below.drew (below_drewN h n)
      | exact below_drewN (Below.drew h) n
theorem tie_any (p : Nat × Nat) (a ga gp g o n c : Nat) (i j : Int) (w : World) (hga : w.cell? ⟨ga, 0, none⟩ = some (.int .i64 a)) (hgp : w.cell? ⟨gp, 0, none⟩ = some (.slice (some ⟨g, o, none⟩) n c)) (h1 : w.cell? ⟨g, o + p.2, none⟩ = some (.int .i64 i)) (h2 : w.cell? ⟨g, o + a, none⟩ = some (.int .i64 j)) (hp : p.2 < n) (ha : a < n) (hn : n ≤ 9223372036854775807) :
    Calls Try.prog 24 #[.agg #[.int .i64 (p.1 : Int), .int .i64 (p.2 : Int)], .pointer (some ⟨ga, 0, none⟩), .pointer (some ⟨gp, 0, none⟩)] w fun e w' => e = .returned (.bool (decide (p.1 = a) && decide (i = j))) ∧ Below w.heap.size w w' := by
  obtain ⟨x, y⟩ := p
  simp only at h1 hp ⊢
  have z1 := World.block_lt_of_cell? w _ hga
  have z2 := World.block_lt_of_cell? w _ hgp
  have z3 := World.block_lt_of_cell? w _ h1
  simp only at z1 z2 z3
  by_cases hx : x = a
  · have d0 : decide (x = a) = true := by simpa using hx
    have d1 : decide ((x : Int) = (a : Int)) = true := by simp; omega
    have d2 : ((x : Int) == (a : Int)) = true := by simpa using d1
    rw [d0, Bool.true_and]
    clear d0 hx
    by_cases hij : i = j
    · have e : decide (i = j) = true := by simpa using hij
      have e2 : (i == j) = true := by simpa using hij
      rw [e]
      go_enter Try.func24, Try.ntmps24
      go_wp2_with fail
      go_quiet (fail)
      go_wp2
      go_ret
      exact ⟨rfl, (by repeat (first | (with_reducible refine below_drewN ?_ _) | exact Below.refl _ _ | (with_reducible refine Below.drew ?_) | refine Below.setCell ?_ (by simp) _ | refine Below.alloc ?_ (by first | omega | (simp; done) | (simp; omega)) _))⟩
    · have e : decide (i = j) = false := by simpa using hij
      have e2 : (i == j) = false := by simpa using hij
      rw [e]
      go_enter Try.func24, Try.ntmps24
      go_wp2_with fail
      go_quiet (fail)
      go_wp2
      go_ret
      exact ⟨rfl, (by repeat (first | (with_reducible refine below_drewN ?_ _) | exact Below.refl _ _ | (with_reducible refine Below.drew ?_) | refine Below.setCell ?_ (by simp) _ | refine Below.alloc ?_ (by first | omega | (simp; done) | (simp; omega)) _))⟩
  · have d0 : decide (x = a) = false := by simpa using hx
    have d1 : decide ((x : Int) = (a : Int)) = false := by simp; omega
    have d2 : ((x : Int) == (a : Int)) = false := by simpa using d1
    rw [d0, Bool.false_and]
    clear d0 hx
    go_enter Try.func24, Try.ntmps24
    go_wp2_with fail
    go_quiet (fail)
    go_wp2
    go_ret
    exact ⟨rfl, (by repeat (first | (with_reducible refine below_drewN ?_ _) | exact Below.refl _ _ | (with_reducible refine Below.drew ?_) | refine Below.setCell ?_ (by simp) _ | refine Below.alloc ?_ (by first | omega | (simp; done) | (simp; omega)) _))⟩

def TiedP (n : Int) (l : List (Int × Int)) (a : Int) (w : World) (e : Ending) (w' : World) : Prop :=
  ∃ b : Bool, e = .returned (.tuple #[.bool b, .int .i64 (tieI n l a)]) ∧ Below w.heap.size w w' ∧ (tieI n l a ≠ 0 → b = false) ∧ ∀ N A : Nat, n = (N : Int) → a = (A : Int) → tieI n l a = 0 → (b = true ↔ ∃ p ∈ toN l, p.1 = A ∧ Reach (toL (toN l)) p.2 A)

def tieB (pl : List Int) (A : Nat) (x : Int × Int) : Bool := decide (x.1.toNat = A) && decide (pl.getD x.2.toNat 0 = pl.getD A 0)
theorem mem_toN {l : List (Int × Int)} (h : (toN l).map castP = l) {x : Int × Int} (hx : x ∈ l) : ∃ q ∈ toN l, x = castP q := by
  rw [← h] at hx
  obtain ⟨q, hq, rfl⟩ := List.mem_map.1 hx
  exact ⟨q, hq, rfl⟩
theorem mem_to {L : List (Nat × Nat)} {a b : Nat} : b ∈ toL L a ↔ (a, b) ∈ L := by
  simp only [toL, List.mem_map, List.mem_filter]
  constructor
  · rintro ⟨p, ⟨h1, h2⟩, rfl⟩
    have : p.1 = a := by simpa using h2
    rw [← this]
    exact h1
  · intro h
    exact ⟨(a, b), ⟨h, by simp⟩, rfl⟩
theorem tied_iff {l : List (Int × Int)} {N A : Nat} {s : St} {pl : List Int} (hmap : (toN l).map castP = l) (hpts : ∀ p ∈ toN l, p.1 < N ∧ p.2 < N) (hi : Inv (toL (toN l)) N s []) (hk : ∀ x, x < N → x ∈ s.ks) (hp : Placed pl s.al) (hA : A < N) :
    l.any (tieB pl A) = true ↔ ∃ p ∈ toN l, p.1 = A ∧ Reach (toL (toN l)) p.2 A := by
  have key : ∀ q ∈ toN l, q.1 = A → (pl.getD q.2 0 = pl.getD A 0 ↔ Reach (toL (toN l)) q.2 A) := fun q hq e => by
    obtain ⟨i, hi1⟩ := hi.plc (hk A hA)
    obtain ⟨j, hj1⟩ := hi.plc (hk q.2 (hpts q hq).2)
    obtain ⟨c, h1, h2⟩ := hi1
    obtain ⟨d, h3, h4⟩ := hj1
    have e1 : pl.getD A 0 = (i : Int) := by rw [List.getD_eq_getElem?_getD, hp i c h1 A h2]; rfl
    have e2 : pl.getD q.2 0 = (j : Int) := by rw [List.getD_eq_getElem?_getD, hp j d h3 q.2 h4]; rfl
    have hm := hi.plc_mut (x := q.2) (y := A) ⟨d, h3, h4⟩ ⟨c, h1, h2⟩
    have har : Reach (toL (toN l)) A q.2 := Reach.one (mem_to.2 (by rw [← e]; exact hq))
    rw [e1, e2]
    constructor
    · intro h
      exact (hm.1 (by omega)).1
    · intro h
      have := hm.2 ⟨h, har⟩
      omega
  rw [List.any_eq_true]
  constructor
  · rintro ⟨x, hx, ht⟩
    obtain ⟨q, hq, rfl⟩ := mem_toN hmap hx
    simp only [tieB, castP, Int.toNat_natCast, Bool.and_eq_true] at ht
    have e := of_decide_eq_true ht.1
    exact ⟨q, hq, e, (key q hq e).1 (of_decide_eq_true ht.2)⟩
  · rintro ⟨q, hq, e, hr⟩
    refine ⟨castP q, by rw [← hmap]; exact List.mem_map.2 ⟨q, hq, rfl⟩, ?_⟩
    simp only [tieB, castP, Int.toNat_natCast, Bool.and_eq_true]
    exact ⟨decide_eq_true e, decide_eq_true ((key q hq e).2 hr)⟩
theorem tie_contains {l : List (Int × Int)} {N A gb cp : Nat} {Ap : Option Addr} {pl : List Int} {v : Value} {w5 : World} (hmap : (toN l).map castP = l) (hpts : ∀ p ∈ toN l, p.1 < N ∧ p.2 < N) (hN : N ≤ 1000) (hA : A < N) (hpn : pl.length = N) (hpl : IsAt w5 (.slice Ap pl.length cp) pl) (hx : w5.cell? ⟨gb, 0, none⟩ = some (.int .i64 A)) (hl : EsAt w5 v l) :
    Calls Try.prog 23 #[v, .func (Fn.func 24) #[] #[.pointer (some ⟨gb, 0, none⟩), .pointer (some ⟨w5.heap.size, 0, none⟩)]] (w5.alloc (.cells #[.slice Ap pl.length cp] 25)) fun e w' => e = .returned (.bool (l.any (tieB pl A))) ∧ Below w5.heap.size w5 w' := by
  have hB : Below w5.heap.size w5 (w5.alloc (.cells #[.slice Ap pl.length cp] 25)) := (Below.refl _ _).alloc (Nat.le_refl _) _
  have hR : Row (w5.alloc (.cells #[.slice Ap pl.length cp] 25)) w5.heap.size 25 [.slice Ap pl.length cp] := Row.new _ _ _
  obtain ⟨j, hj⟩ : ∃ j, pl[A]? = some j := ⟨_, List.getElem?_eq_getElem (by omega)⟩
  obtain ⟨g, o, e1, _, h2⟩ := hpl.get hj
  refine (contains_tie (tieB pl A) _ _ _ (hl.below hB) (fun W x hx1 hb => ?_)).mono (fun e w' h => ⟨h.1, hB.trans (h.2.mono hB.size)⟩)
  obtain ⟨q, hq, rfl⟩ := mem_toN hmap hx1
  obtain ⟨i, hi⟩ : ∃ i, pl[q.2]? = some i := ⟨_, List.getElem?_eq_getElem (by have := (hpts q hq).2; omega)⟩
  obtain ⟨g', o', e2, _, h1⟩ := hpl.get hi
  rw [e1] at e2
  injection e2 with e2
  injection e2 with e3 e4 _
  subst e3 e4
  have hh := tie_any q A gb w5.heap.size g o pl.length cp i j W (cell_below hb (cell_below hB hx)) (by rw [← e1]; exact (hR.below hb hR.lt).get rfl) (cell_below hb (cell_below hB h1)) (cell_below hb (cell_below hB h2)) (by have := (hpts q hq).2; omega) (by omega) (by omega)
  have e : (decide (q.1 = A) && decide (i = j)) = tieB pl A (castP q) := by
    simp only [tieB, castP, Int.toNat_natCast, List.getD_eq_getElem?_getD, hi, hj, Option.getD_some]
    first | rfl | congr
  rw [e] at hh
  exact hh

set_option maxHeartbeats 4000000 in
theorem tied_any {l : List (Int × Int)} {v : Value} (n a : Int) (w : World) (hl : EsAt w v l) : Calls Try.prog 13 #[.int .i64 n, v, .int .i64 a] w (TiedP n l a w) := by
  have HL := Lib.hid hl; clear hl
  by_cases hc : chkI n l = 0
  · obtain ⟨N, rfl, hN, hLn, hmap, hpts⟩ := chk_ok hc
    have HC := Lib.hid hc
    by_cases ha : a < 0 ∨ (N : Int) ≤ a
    · have ht : tieI N l a = 2 := by unfold tieI; rw [if_pos hc, if_pos ha]
      have HT := Lib.hid ht; clear ht
      by_cases h1 : a < 0
      · go_enter Try.func13, Try.ntmps13
        go_wp2_with (go_at_call 19; refine (check_any _ _ (HL.out.below (by repeat (first | exact Below.refl _ _ | (with_reducible refine Below.drew ?_) | refine Below.setCell ?_ (by simp) _ | refine Below.alloc ?_ (by first | omega | (simp; done) | (simp; omega)) _)))).mono ?_; rintro e w1 ⟨rfl, h1⟩; have H1 : Hid (Below w.heap.size w w1) := Below.trans (by repeat (first | exact Below.refl _ _ | (with_reducible refine Below.drew ?_) | refine Below.setCell ?_ (by simp) _ | refine Below.alloc ?_ (by first | omega | (simp; done) | (simp; omega)) _)) (h1.mono (by simp)); have X := h1.cell (p := ⟨w.heap.size, 0, none⟩) (by simp); simp at X; have Z := h1.size; simp at Z; clear h1; rw [hc])
        go_wp2
        refine bodyPost_ret (v := .tuple #[.bool false, .int .i64 2]) (by simp [results, Try.results13, go_sem, *]) rfl ?_
        exact ⟨false, by rw [HT.out], H1.out, fun _ => rfl, fun _ _ _ _ h => by rw [HT.out] at h; cases h⟩
      · have h2 : (N : Int) ≤ a := by omega
        clear ha
        go_enter Try.func13, Try.ntmps13
        go_wp2_with (go_at_call 19; refine (check_any _ _ (HL.out.below (by repeat (first | exact Below.refl _ _ | (with_reducible refine Below.drew ?_) | refine Below.setCell ?_ (by simp) _ | refine Below.alloc ?_ (by first | omega | (simp; done) | (simp; omega)) _)))).mono ?_; rintro e w1 ⟨rfl, h1⟩; have H1 : Hid (Below w.heap.size w w1) := Below.trans (by repeat (first | exact Below.refl _ _ | (with_reducible refine Below.drew ?_) | refine Below.setCell ?_ (by simp) _ | refine Below.alloc ?_ (by first | omega | (simp; done) | (simp; omega)) _)) (h1.mono (by simp)); have X := h1.cell (p := ⟨w.heap.size, 0, none⟩) (by simp); simp at X; have Z := h1.size; simp at Z; clear h1; rw [hc])
        go_wp2
        refine bodyPost_ret (v := .tuple #[.bool false, .int .i64 2]) (by simp [results, Try.results13, go_sem, *]) rfl ?_
        exact ⟨false, by rw [HT.out], H1.out, fun _ => rfl, fun _ _ _ _ h => by rw [HT.out] at h; cases h⟩
    · obtain ⟨A, rfl⟩ : ∃ A : Nat, a = (A : Int) := ⟨a.toNat, by omega⟩
      have hA : A < N := by omega
      have ht : tieI N l A = 0 := by unfold tieI; rw [if_pos hc, if_neg ha]
      have HT := Lib.hid ht; clear ht ha
      have HA := Lib.hid hA
      have HLL : Hid (EsAt w v ((toN l).map castP)) := Lib.hid (by rw [hmap]; exact HL.out)
      have HPT := Lib.hid hpts; clear hpts
      have HMAP := Lib.hid hmap; clear hmap
      have hmf : ∀ (fn : Fn) (first cap : Array Value) (w : World), (Instr.makeFunc fn first cap).run Try.prog w = .ok (.func fn first cap) w := fun _ _ _ _ => rfl
      have d1 : ¬ ((A : Int) < 0) := by omega
      have d2 : ¬ ((N : Int) ≤ (A : Int)) := by omega
      go_enter Try.func13, Try.ntmps13
      go_wp2_with (first
        | (go_at_call 19; refine (check_any _ _ (HL.out.below (by repeat (first | exact Below.refl _ _ | (with_reducible refine Below.drew ?_) | refine Below.setCell ?_ (by simp) _ | refine Below.alloc ?_ (by first | omega | (simp; done) | (simp; omega)) _)))).mono ?_; rintro e w1 ⟨rfl, h1⟩; have H1 : Hid (Below w.heap.size w w1) := Below.trans (by repeat (first | exact Below.refl _ _ | (with_reducible refine Below.drew ?_) | refine Below.setCell ?_ (by simp) _ | refine Below.alloc ?_ (by first | omega | (simp; done) | (simp; omega)) _)) (h1.mono (by simp)); have X := h1.cell (p := ⟨w.heap.size, 0, none⟩) (by simp); simp at X; have Z := h1.size; simp at Z; clear h1; rw [hc])
        | (go_at_call 20; refine (knots_any N _ (HLL.out.below H1.out) hN hLn HPT.out).mono ?_; rintro e w5 ⟨s, pl, v1, v2, rfl, hi, hk, hp, hpn, hal, hpl, h5⟩; have HI := Lib.hid hi; have HK := Lib.hid hk; have HP := Lib.hid hp; have HPN := Lib.hid hpn; have HPL := Lib.hid hpl; have H5 := Lib.hid (H1.out.trans (h5.mono H1.out.size)); have X5 := Lib.hid (cell_below h5 X); obtain ⟨Aa, ca, rfl, _, _⟩ := hal; obtain ⟨Ap, cp, rfl, _, _⟩ := hpl; clear hi hk hp hpn h5)
        | (go_at_call 23; refine (tie_contains HMAP.out HPT.out hN HA.out HPN.out HPL.out X5.out (HL.out.below H5.out)).mono ?_; rintro e w7 ⟨rfl, h7⟩; have H7 := Lib.hid (H5.out.trans (h7.mono H5.out.size)); clear h7))
      go_wp2
      refine bodyPost_ret (v := .tuple #[.bool (l.any (tieB pl A)), .int .i64 0]) (by simp [results, Try.results13, go_sem, *]) rfl ?_
      refine ⟨l.any (tieB pl A), by rw [HT.out], H7.out, fun h => absurd HT.out h, fun M B hM hB _ => ?_⟩
      obtain rfl : N = M := by omega
      obtain rfl : A = B := by omega
      exact tied_iff HMAP.out HPT.out HI.out HK.out HP.out HA.out
  · have ht : tieI n l a = chkI n l := by unfold tieI; rw [if_neg hc]
    have HT := Lib.hid ht; clear ht
    have HC := Lib.hid hc
    obtain ⟨c, hcc⟩ : ∃ c, chkI n l = c := ⟨_, rfl⟩
    have HCC := Lib.hid hcc
    rw [hcc] at hc
    have hne1 : (c != 0) = true := by simpa using hc
    have hne2 : (c == 0) = false := by simpa using hc
    clear hcc
    go_enter Try.func13, Try.ntmps13
    go_wp2_with (go_at_call 19; refine (check_any _ _ (HL.out.below (by repeat (first | exact Below.refl _ _ | (with_reducible refine Below.drew ?_) | refine Below.setCell ?_ (by simp) _ | refine Below.alloc ?_ (by first | omega | (simp; done) | (simp; omega)) _)))).mono ?_; rintro e w1 ⟨rfl, h1⟩; have H1 : Hid (Below w.heap.size w w1) := Below.trans (by repeat (first | exact Below.refl _ _ | (with_reducible refine Below.drew ?_) | refine Below.setCell ?_ (by simp) _ | refine Below.alloc ?_ (by first | omega | (simp; done) | (simp; omega)) _)) (h1.mono (by simp)); clear h1; rw [HCC.out])
    refine bodyPost_ret (v := .tuple #[.bool false, .int .i64 c]) (by simp [results, Try.results13, go_sem, *]) rfl ?_
    exact ⟨false, by rw [HT.out, HCC.out], H1.out, fun _ => rfl, fun _ _ _ _ h => absurd (HT.out.symm.trans h) HC.out⟩

end Go.Proofs.Ytkmbjpgpkgeiaaa

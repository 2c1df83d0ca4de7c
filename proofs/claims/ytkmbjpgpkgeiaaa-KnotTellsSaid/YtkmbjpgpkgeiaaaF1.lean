/- The contract of the document's Come. -/
import Derived.Test.YtkmbjpgpkgeiaaaRows
import Derived.WalkKit
import Derived.ProofKit
import Derived.OpenShut
import Derived.Below
import Derived.Outline
import Derived.LoopTactic
import Derived.Lib.Hide
import Derived.WalkSpells
import Derived.RegionTactic
import Derived.BigRegion
import Derived.Deep.QuietTactic
import Derived.BigQuiet
import Derived.Deep.RegionWith
import Derived.Test.YtkmbjpgpkgeiaaaH1
namespace Go.Proofs.Ytkmbjpgpkgeiaaa
open Go.ChangeShapes Go.WideShapes Go.ChangeAt Go.RowKit
set_option linter.unusedVariables false

def bvL (n : Nat) (B : Nat → Bool) : List Value := (List.range n).map (fun i => Value.bool (B i))
theorem bv_get {n i : Nat} (B : Nat → Bool) (h : i < n) : (bvL n B)[i]? = some (.bool (B i)) := by simp [bvL, h]
def updB (B : Nat → Bool) (y : Nat) : Nat → Bool := fun i => if i = y then true else B i
theorem bv_upd {n y : Nat} (B : Nat → Bool) (h : y < n) : (bvL n B).set y (.bool true) = bvL n (updB B y) := by
  apply List.ext_getElem?
  intro i
  by_cases hi : i < n
  · rw [bv_get _ hi]
    by_cases e : y = i
    · subst e
      rw [List.getElem?_set_self (by simp [bvL]; exact hi)]
      simp [updB]
    · rw [List.getElem?_set_ne e, bv_get _ hi]
      simp [updB, Ne.symm e]
  · rw [List.getElem?_eq_none (by simp [bvL]; omega), List.getElem?_eq_none (by simp [bvL]; omega)]
/-- How many are not yet come to. -/
def cnt (n : Nat) (B : Nat → Bool) : Nat := (List.range n).countP (fun i => !B i)
def offV : Option Value → Bool
  | some (.bool true) => false
  | _ => true
def cntW (w : World) (g n : Nat) : Nat := (List.range n).countP (fun i => offV (w.cell? ⟨g, i, none⟩))
theorem cnt_row {w : World} {g n : Nat} {B : Nat → Bool} (h : Row w g 4 (bvL n B)) : cntW w g n = cnt n B := by
  unfold cntW cnt
  refine List.countP_congr (fun i hi => ?_)
  have hin : i < n := by simpa using hi
  rw [h.get (bv_get B hin)]
  cases B i <;> simp [offV]
theorem countP_less {α : Type} {p q : α → Bool} {y : α} : ∀ {l : List α}, (∀ x ∈ l, q x = true → p x = true) → y ∈ l → p y = true → q y = false → l.countP q < l.countP p
  | [], _, h, _, _ => by cases h
  | x :: r, h, hy, h1, h2 => by
    have hle : r.countP q ≤ r.countP p := List.countP_mono_left (fun z hz => h z (List.mem_cons_of_mem _ hz))
    rw [List.countP_cons, List.countP_cons]
    rcases List.mem_cons.1 hy with rfl | hy
    · simp [h1, h2]
      omega
    · have := countP_less (fun z hz => h z (List.mem_cons_of_mem _ hz)) hy h1 h2
      have h3 := h x (by simp)
      by_cases hq : q x = true
      · simp [hq, h3 hq]
        exact this
      · simp [hq]
        omega
theorem cnt_upd {n y : Nat} {B : Nat → Bool} (h : y < n) (hb : B y = false) : cnt n (updB B y) < cnt n B := by
  unfold cnt
  refine countP_less (y := y) (fun x _ hx => ?_) (by simpa using h) (by simp [hb]) (by simp [updB])
  by_cases e : x = y
  · simp [updB, e] at hx
  · simpa [updB, e] using hx
def tI : Value → Nat
  | .bool true => 1
  | _ => 0

def ComeP (to : Nat → List Nat) (N A : Nat) (w : World) (e : Ending) (w' : World) : Prop :=
  ∃ B : Nat → Bool, e = .returned (.slice (some ⟨w.heap.size, 0, none⟩) N N) ∧ Row w' w.heap.size 4 (bvL N B) ∧ Below w.heap.size w w' ∧ ∀ x, x < N → (B x = true ↔ Reach to A x)

theorem come_end {L : List (Nat × Nat)} {N A : Nat} {B : Nat → Bool} (hpts : ∀ p ∈ L, p.1 < N ∧ p.2 < N) (hA : B A = true) (hs : ∀ x, B x = true → Reach (toL L) A x) (hc : ∀ p ∈ L, B p.1 = true → B p.2 = true) (x : Nat) : B x = true ↔ Reach (toL L) A x := by
  refine ⟨hs x, fun h => ?_⟩
  induction h with
  | refl => exact hA
  | step _ hb ih =>
    simp only [toL, List.mem_map, List.mem_filter] at hb
    obtain ⟨p, ⟨h1, h2⟩, rfl⟩ := hb
    have e := eq_of_beq h2
    exact hc p h1 (by rw [e]; exact ih)

set_option maxHeartbeats 4000000 in
theorem come_any {L : List (Nat × Nat)} {v : Value} (N A : Nat) (w : World) (hl : EsAt w v (L.map castP)) (hN : N ≤ 1000) (hL : L.length ≤ 10000) (hpts : ∀ p ∈ L, p.1 < N ∧ p.2 < N) (hA : A < N) : Calls Try.prog 11 #[.int .i64 N, v, .int .i64 A] w (ComeP (toL L) N A w) := by
  have hl' := hl
  obtain ⟨Al, cl, rfl, hmx, hq⟩ := hl'
  rw [List.length_map] at hmx ⊢
  have HL := Lib.hid hl; clear hl
  have HPT := Lib.hid hpts; clear hpts
  clear hq
  have hmk := fun (W : World) => run_mk (P := Try.prog) Try.underlying29 info4 rfl (by decide) N (by omega) W
  have R0 : Hid (Row (w.alloc (.cells ((Array.replicate N (Value.bool false)).setIfInBounds A (.bool true)) 4)) w.heap.size 4 (bvL N (updB (fun _ => false) A))) := by
    have e : (Array.replicate N (Value.bool false)).setIfInBounds A (.bool true) = (bvL N (updB (fun _ => false) A)).toArray := by
      apply Array.ext'
      rw [← bv_upd _ hA]
      have e2 : List.replicate N (Value.bool false) = bvL N (fun _ => false) := by
        apply List.ext_getElem?
        intro i
        by_cases hi : i < N
        · rw [bv_get _ hi, List.getElem?_replicate, if_pos hi]
        · rw [List.getElem?_eq_none (by simp; omega), List.getElem?_eq_none (by simp [bvL]; omega)]
      rw [← e2]
      simp
    rw [e]
    exact Row.new _ _ _
  have hrg : ∀ i, i < N → (Array.replicate N (Value.bool false))[i]? = some (Value.bool false) := fun i hi => by simp [hi]
  have hra := hrg A hA
  clear hrg
  go_enter Try.func11, Try.ntmps11
  go_wp2_with fail
  clear hmk hra
  go_loopw [8, 9] (fun t _ wr => ∃ (B : Nat → Bool) (b : Bool), t = .bool b ∧ Below w.heap.size w wr ∧ Row wr w.heap.size 4 (bvL N B) ∧ B A = true ∧ (∀ x, B x = true → Reach (toL L) A x) ∧ (b = false → ∀ p ∈ L, B p.1 = true → B p.2 = true)) (fun t _ wr => 2 * cntW wr w.heap.size N + tI t)
  case atStart => exact ⟨updB (fun _ => false) A, true, rfl, (by repeat (first | exact Below.refl _ _ | (with_reducible refine Below.drew ?_) | refine Below.setCell ?_ (by simp) _ | refine Below.alloc ?_ (by first | omega | (simp; done) | (simp; omega)) _)), R0.out, by simp [updB], fun x hx => by
    have e : x = A := by simpa [updB] using hx
    rw [e]
    exact .refl _, fun h => by cases h⟩
  case round =>
    clear R0
    obtain ⟨B0, b0, rfl, hb, hr, hba, hs, hc⟩ := hrel
    have HB := Lib.hid hb; clear hb
    have HR := Lib.hid hr; clear hr
    have HBA := Lib.hid hba; clear hba
    have HS := Lib.hid hs; clear hs
    have HC := Lib.hid hc; clear hc
    cases b0 with
    | false =>
      go_wp2
      go_ret
      exact ⟨B0, rfl, HR.out, HB.out, fun x hx => come_end HPT.out HBA.out HS.out (HC.out (by first | rfl | trivial)) x⟩
    | true =>
      go_wp2_with fail
      obtain ⟨wo, rfl⟩ : ∃ wo : World, wo = wr := ⟨_, rfl⟩
      have HC0 : Hid (cntW wo w.heap.size N = cnt N B0) := cnt_row HR.out
      go_loopw [8, 9] (fun t i wr => ∃ (k : Nat) (B : Nat → Bool) (b : Bool), k ≤ L.length ∧ i = .int .i64 k ∧ t = .bool b ∧ Below w.heap.size w wr ∧ Row wr w.heap.size 4 (bvL N B) ∧ B A = true ∧ (∀ x, B x = true → Reach (toL L) A x) ∧ (b = false → cnt N B = cnt N B0 ∧ ∀ p ∈ L.take k, B p.1 = true → B p.2 = true) ∧ (b = true → cnt N B < cnt N B0)) (fun _ i _ => L.length - (intOf i).toNat)
      case atStart => exact ⟨0, B0, false, Nat.zero_le _, rfl, rfl, HB.out, HR.out, HBA.out, HS.out, fun _ => ⟨rfl, by simp⟩, fun h => by cases h⟩
      case round =>
        clear HB HR HBA HS HC
        obtain ⟨k, B, b, hk, rfl, rfl, hb, hr, hba, hs, hc, hd⟩ := hrel
        have HB := Lib.hid hb; clear hb
        have HR := Lib.hid hr; clear hr
        have HBA := Lib.hid hba; clear hba
        have HS := Lib.hid hs; clear hs
        have HC := Lib.hid hc; clear hc
        have HD := Lib.hid hd; clear hd
        by_cases hlt : k < L.length
        · have HLT := Lib.hid hlt
          obtain ⟨p, hp⟩ : ∃ p, L[k]? = some p := ⟨_, List.getElem?_eq_getElem hlt⟩
          have HP := Lib.hid hp
          have hpv := HPT.out p (List.mem_of_getElem? hp)
          obtain ⟨ga, oa, rfl, hga, q0, q1⟩ := HL.out.get (i := k) (x := castP p) (by rw [List.getElem?_map, hp]; rfl)
          have hgar : ga < wr.heap.size := Nat.lt_of_lt_of_le hga HB.out.size
          replace q0 := cell_below HB.out q0
          replace q1 := cell_below HB.out q1
          simp only [castP] at q0 q1
          obtain ⟨x, y⟩ := p
          obtain ⟨hxn, hyn⟩ := hpv
          simp only at hxn hyn q0 q1
          have u0 := HR.out.get (bv_get B hxn)
          have u1 := HR.out.get (bv_get B hyn)
          have f1 := HR.out.frozen y
          have hzl := HR.out.lt
          have hmem : y ∈ toL L x := by
            simp only [toL, List.mem_map, List.mem_filter]
            exact ⟨(x, y), ⟨List.mem_of_getElem? hp, by simp⟩, rfl⟩
          have HMEM := Lib.hid hmem; clear hmem hp
          cases hbx : B x with
          | false =>
            rw [hbx] at u0
            have HBX := Lib.hid hbx; clear hbx u1
            go_wp2
            go_roundw
            case rel => exact ⟨k + 1, B, b, HLT.out, by go_num, rfl, HB.out, HR.out, HBA.out, HS.out, fun e => ⟨(HC.out e).1, take_more HP.out (HC.out e).2 (fun h => by rw [HBX.out] at h; cases h)⟩, HD.out⟩
            case measure => have := HLT.out; simp [intOf]; omega
          | true =>
            rw [hbx] at u0
            have HBX := Lib.hid hbx; clear hbx
            cases hby : B y with
            | true =>
              rw [hby] at u1
              have HBY := Lib.hid hby; clear hby
              go_wp2
              go_roundw
              case rel => exact ⟨k + 1, B, b, HLT.out, by go_num, rfl, HB.out, HR.out, HBA.out, HS.out, fun e => ⟨(HC.out e).1, take_more HP.out (HC.out e).2 (fun _ => HBY.out)⟩, HD.out⟩
              case measure => have := HLT.out; simp [intOf]; omega
            | false =>
              rw [hby] at u1
              have HBY := Lib.hid hby; clear hby
              have HLE : Hid (cnt N (updB B y) < cnt N B0) := by
                have h1 := cnt_upd hyn HBY.out
                unfold Hid
                cases b with
                | false => have := (HC.out (by first | rfl | trivial)).1; omega
                | true => have := HD.out (by first | rfl | trivial); omega
              go_wp2
              go_roundw
              case rel => exact ⟨k + 1, updB B y, true, HLT.out, by go_num, rfl, Below.setCell HB.out (by simp) _, by rw [← bv_upd _ hyn]; exact HR.out.set y (.bool true), by simp only [updB]; split; rfl; exact HBA.out, fun z hz => by
                by_cases e : z = y
                · subst e
                  exact (HS.out x HBX.out).trans (Reach.one HMEM.out)
                · exact HS.out z (by simpa [updB, e] using hz), fun e => (by cases e), fun _ => HLE.out⟩
              case measure => have := HLT.out; simp [intOf]; omega
        · obtain rfl : k = L.length := by omega
          go_wp2
          go_roundw
          case rel => exact ⟨B, b, rfl, HB.out, HR.out, HBA.out, HS.out, fun e => by have := (HC.out e).2; rw [List.take_length] at this; exact this⟩
          case measure =>
            rw [HC0.out, cnt_row HR.out]
            cases b with
            | false => have := (HC.out (by first | rfl | trivial)).1; simp [tI]; omega
            | true => have := HD.out (by first | rfl | trivial); simp [tI]; omega

end Go.Proofs.Ytkmbjpgpkgeiaaa

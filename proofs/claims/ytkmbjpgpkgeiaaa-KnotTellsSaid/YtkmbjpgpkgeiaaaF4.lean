/- The contracts of the document's Ranked and Ranks. -/
import Derived.Test.YtkmbjpgpkgeiaaaRows
import Derived.WalkKit
import Derived.ProofKit
import Derived.OpenShut
import Derived.Below
import Derived.Outline
import Derived.LoopTactic
import Derived.Lib.Hide
import Derived.WalkSpells
import Derived.RegionTactic
import Derived.BigRegion
import Derived.Deep.QuietTactic
import Derived.BigQuiet
import Derived.Deep.RegionWith
import Derived.Test.YtkmbjpgpkgeiaaaF3
import Derived.Test.YtkmbjpgpkgeiaaaH2
import Derived.Test.YtkmbjpgpkgeiaaaH3
namespace Go.Proofs.Ytkmbjpgpkgeiaaa
open Go.ChangeShapes Go.WideShapes Go.ChangeAt Go.RowKit
set_option linter.unusedVariables false

def numV : Option Value → Nat
  | some (.int _ n) => n.toNat
  | _ => 0
def sumO (N : Nat) (R O : Nat → Nat) : Nat := ((List.range N).map (fun i => R i - O i)).sum
def sumW (w : World) (g N : Nat) (R : Nat → Nat) : Nat := ((List.range N).map (fun i => R i - numV (w.cell? ⟨g, i, none⟩))).sum
theorem sum_row {w : World} {g N : Nat} {R O : Nat → Nat} (h : Row w g 3 ((rkL N O).map iv)) : sumW w g N R = sumO N R O := by
  unfold sumW sumO
  congr 1
  apply List.map_congr_left
  intro i hi
  have hin : i < N := by simpa using hi
  rw [h.get (u := iv (O i : Nat)) (by rw [List.getElem?_map, rk_get _ hin]; rfl)]
  simp [numV, iv]
theorem sum_le {α : Type} {f g : α → Nat} : ∀ {l : List α}, (∀ x ∈ l, f x ≤ g x) → (l.map f).sum ≤ (l.map g).sum
  | [], _ => Nat.le_refl _
  | x :: r, h => by
    have h1 := h x (by simp)
    have h2 := sum_le (l := r) (fun y hy => h y (List.mem_cons_of_mem _ hy))
    simp only [List.map_cons, List.sum_cons]
    omega
theorem sum_less {α : Type} {f g : α → Nat} {y : α} : ∀ {l : List α}, (∀ x ∈ l, f x ≤ g x) → y ∈ l → f y < g y → (l.map f).sum < (l.map g).sum
  | [], _, h, _ => by cases h
  | x :: r, h, hy, hl => by
    have h2 := sum_le (l := r) (fun y hy => h y (List.mem_cons_of_mem _ hy))
    simp only [List.map_cons, List.sum_cons]
    rcases List.mem_cons.1 hy with rfl | hy
    · omega
    · have h1 := h x (by simp)
      have h3 := sum_less (l := r) (fun y hy => h y (List.mem_cons_of_mem _ hy)) hy hl
      omega
theorem sum_upd {N y v : Nat} {R O : Nat → Nat} (hy : y < N) (h1 : O y < v) (h2 : v ≤ R y) : sumO N R (updR O y v) < sumO N R O := by
  unfold sumO
  refine sum_less (y := y) (fun i _ => ?_) (by simpa using hy) ?_
  · by_cases e : i = y
    · subst e
      rw [updR_self]
      omega
    · rw [updR_ne _ _ e]
      exact Nat.le_refl _
  · rw [updR_self]
    omega
theorem rank_end {L : List (Nat × Nat)} {N : Nat} {R O hd : Nat → Nat} (hR : IsRanks (toL L) N R) (hlt : ∀ a b, b ∈ toL L a → b < N) (hh : ∀ a, a < N → IsHead (toL L) a (hd a)) (hle : ∀ x, x < N → O x ≤ R x) (hc : ∀ p ∈ L, hd p.1 ≠ hd p.2 → O (hd p.2) + 1 ≤ O (hd p.1)) : ∀ h, h < N → hd h = h → O h = R h := by
  have key : ∀ (j h : Nat), h < N → hd h = h → R h ≤ j → R h ≤ O h := by
    intro j
    induction j with
    | zero => exact fun h _ _ h0 => Nat.le_trans h0 (Nat.zero_le _)
    | succ j ih =>
      intro h hN he hj
      rcases hR.tight h hN with h0 | ⟨x, b, hx, hb, hnm, e⟩
      · rw [h0]; exact Nat.zero_le _
      · have hxN : x < N := reach_lt hlt hN hx.1
        have hbN : b < N := hlt x b hb
        have ex : hd x = h := by rw [← he]; exact ((hh x hxN).same (hh h hN)).2 hx.symm
        have hne : hd x ≠ hd b := fun e => hnm (((hh x hxN).same (hh b hbN)).1 e)
        have hbm := (hh b hbN).mem
        have hbh : hd b < N := reach_lt hlt hbN hbm.1
        have e2 : R (hd b) = R b := (hR.same b (hd b) hbN hbm).symm
        have e3 : hd (hd b) = hd b := (hh (hd b) hbh).unique (hh b hbN).self
        have h1 := ih (hd b) hbh e3 (by omega)
        have h2 : O (hd b) + 1 ≤ O (hd x) := hc (x, b) (mem_to.1 hb) hne
        rw [ex] at h2
        omega
  intro h hN he
  exact Nat.le_antisymm (hle h hN) (key _ h hN he (Nat.le_refl _))

def RankedP (N : Nat) (R : Nat → Nat) (w : World) (e : Ending) (w' : World) : Prop := ∃ v : Value, e = .returned v ∧ IsAt w' v (rkL N R) ∧ Below w.heap.size w w'
set_option maxHeartbeats 4000000 in
theorem ranked_any {L : List (Nat × Nat)} {v hv : Value} {hs : List Int} {R hd : Nat → Nat} (N : Nat) (w : World) (hl : EsAt w v (L.map castP)) (hh : IsAt w hv hs) (hsl : hs.length = N) (hhd : ∀ a, a < N → hs[a]? = some ((hd a : Nat) : Int) ∧ IsHead (toL L) a (hd a)) (hR : IsRanks (toL L) N R) (hRb : ∀ a, a < N → R a ≤ N) (hN : N ≤ 1000) (hL : L.length ≤ 10000) (hpts : ∀ p ∈ L, p.1 < N ∧ p.2 < N) : Calls Try.prog 28 #[.int .i64 N, v, hv] w (RankedP N R w) := by
  obtain ⟨Al, cl, rfl⟩ : ∃ A c, v = .slice A L.length c := by
    obtain ⟨A, c, h1, _⟩ := hl
    exact ⟨A, c, by rw [h1, List.length_map]⟩
  obtain ⟨Ah, ch, rfl⟩ : ∃ A c, hv = .slice A N c := by
    obtain ⟨A, c, h1, _⟩ := hh
    exact ⟨A, c, by rw [h1, hsl]⟩
  have HL := Lib.hid hl; clear hl
  have HH := Lib.hid hh; clear hh
  have HD := Lib.hid hhd; clear hhd
  have HR := Lib.hid hR; clear hR
  have HRB := Lib.hid hRb; clear hRb
  have HPT := Lib.hid hpts; clear hpts
  have HLT : Hid (∀ a b, b ∈ toL L a → b < N) := to_lt HPT.out
  have HHN : Hid (∀ a, a < N → hd a < N) := fun a ha => reach_lt HLT.out ha (HD.out a ha).2.mem.1
  have hmk := fun (W : World) => run_mk (P := Try.prog) Try.underlying25 info3 rfl (by decide) N (by omega) W
  clear hsl
  go_enter Try.func28, Try.ntmps28
  go_wp2_with fail
  clear hmk
  go_loopw [8, 9, 10, 11] (fun t _ _ _ wr => ∃ (O : Nat → Nat) (b : Bool), t = .bool b ∧ Below w.heap.size w wr ∧ Row wr w.heap.size 3 ((rkL N O).map iv) ∧ (∀ x, x < N → O x ≤ R x) ∧ (b = false → ∀ p ∈ L, hd p.1 ≠ hd p.2 → O (hd p.2) + 1 ≤ O (hd p.1))) (fun t _ _ _ wr => 2 * sumW wr w.heap.size N R + tI t)
  case atStart => exact ⟨fun _ => 0, true, rfl, (Below.refl _ _).alloc (Nat.le_refl _) _, by rw [rk_zero]; have := Row.new w 3 ((List.replicate N (0 : Int)).map iv); simpa [iv] using this, fun _ _ => Nat.zero_le _, fun h => by cases h⟩
  case round =>
    obtain ⟨O0, b0, rfl, hb, hr, hle, hc⟩ := hrel
    have HB := Lib.hid hb; clear hb
    have HRO := Lib.hid hr; clear hr
    have HLE := Lib.hid hle; clear hle
    have HC := Lib.hid hc; clear hc
    cases b0 with
    | false =>
      have HEND : Hid (∀ h, h < N → hd h = h → O0 h = R h) := rank_end HR.out HLT.out (fun a ha => (HD.out a ha).2) HLE.out (HC.out (by first | rfl | trivial))
      go_wp2_with fail
      obtain ⟨wq, rfl⟩ : ∃ wq : World, wq = wr := ⟨_, rfl⟩
      go_loopw [12] (fun i wr => ∃ (k : Nat) (O : Nat → Nat), k ≤ N ∧ i = .int .i64 k ∧ Below w.heap.size w wr ∧ Row wr w.heap.size 3 ((rkL N O).map iv) ∧ (∀ x, x < k → O x = R x) ∧ ∀ h, h < N → hd h = h → O h = R h) (fun i _ => N - (intOf i).toNat)
      case atStart => exact ⟨0, O0, Nat.zero_le _, rfl, HB.out, HRO.out, fun x hx => by omega, HEND.out⟩
      case round =>
        clear HB HRO HLE HC HEND
        obtain ⟨k, O, hk, rfl, hb, hr, h1, h2⟩ := hrel
        have HB := Lib.hid hb; clear hb
        have HRO := Lib.hid hr; clear hr
        have H1 := Lib.hid h1; clear h1
        have H2 := Lib.hid h2; clear h2
        by_cases hlt : k < N
        · have HLK := Lib.hid hlt
          have hhk := HHN.out k hlt
          have e3 : hd (hd k) = hd k := (HD.out (hd k) hhk).2.unique (HD.out k hlt).2.self
          have HV : Hid (O (hd k) = R k) := (H2.out (hd k) hhk e3).trans (HR.out.same k (hd k) hlt (HD.out k hlt).2.mem).symm
          obtain ⟨gh, oh, rfl, hgh, q0⟩ := HH.out.get ((HD.out k hlt).1)
          replace q0 := cell_below HB.out q0
          have x0 := HRO.out.get (j := hd k) (u := iv (O (hd k) : Nat)) (by rw [List.getElem?_map, rk_get _ hhk]; rfl)
          have x1 := HRO.out.get (j := k) (u := iv (O k : Nat)) (by rw [List.getElem?_map, rk_get _ hlt]; rfl)
          have f0 := HRO.out.frozen k
          have hzl := HRO.out.lt
          simp only [iv] at x0 x1
          obtain ⟨u, hu⟩ : ∃ u, O (hd k) = u := ⟨_, rfl⟩
          rw [hu] at x0
          have HU := Lib.hid hu; clear hu e3
          obtain ⟨hk1, hhk1⟩ : ∃ m, hd k = m := ⟨_, rfl⟩
          have HK1 := Lib.hid hhk1
          rw [hhk1] at q0 x0 hhk
          clear hhk1
          go_wp2
          go_roundw
          case rel => exact ⟨k + 1, updR O k u, HLK.out, by go_num, Below.setCell HB.out (by simp) _, by
            have := HRO.out.set k (iv (u : Nat))
            rw [← List.map_set, rk_upd _ _ HLK.out] at this
            exact this, fun x hx => by
            by_cases e : x = k
            · subst e
              rw [updR_self, ← HU.out, HV.out]
            · rw [updR_ne _ _ e]
              exact H1.out x (by omega), fun h hh1 hh2 => by
            by_cases e : h = k
            · subst e
              rw [updR_self, ← HU.out, HV.out]
            · rw [updR_ne _ _ e]
              exact H2.out h hh1 hh2⟩
          case measure => have := HLK.out; simp [intOf]; omega
        · obtain rfl : k = N := by omega
          have E : Hid (rkL k O = rkL k R) := by
            apply List.ext_getElem?
            intro i
            by_cases hi : i < k
            · rw [rk_get _ hi, rk_get _ hi, H1.out i hi]
            · rw [List.getElem?_eq_none (by rw [rk_len]; omega), List.getElem?_eq_none (by rw [rk_len]; omega)]
          go_wp2
          go_ret
          exact ⟨_, rfl, by rw [← E.out]; exact HRO.out.isAt (rk_len _ _) (by omega), HB.out⟩
    | true =>
      go_wp2_with fail
      obtain ⟨wo, rfl⟩ : ∃ wo : World, wo = wr := ⟨_, rfl⟩
      have HC0 : Hid (sumW wo w.heap.size N R = sumO N R O0) := sum_row HRO.out
      go_loopw [8, 9, 10, 11] (fun t i _ _ wr => ∃ (k : Nat) (O : Nat → Nat) (b : Bool), k ≤ L.length ∧ i = .int .i64 k ∧ t = .bool b ∧ Below w.heap.size w wr ∧ Row wr w.heap.size 3 ((rkL N O).map iv) ∧ (∀ x, x < N → O x ≤ R x) ∧ (b = false → sumO N R O = sumO N R O0 ∧ ∀ p ∈ L.take k, hd p.1 ≠ hd p.2 → O (hd p.2) + 1 ≤ O (hd p.1)) ∧ (b = true → sumO N R O < sumO N R O0)) (fun _ i _ _ _ => L.length - (intOf i).toNat)
      case atStart => exact ⟨0, O0, false, Nat.zero_le _, rfl, rfl, HB.out, HRO.out, HLE.out, fun _ => ⟨rfl, by simp⟩, fun h => by cases h⟩
      case round =>
        clear HB HRO HLE HC
        obtain ⟨k, O, b, hk, rfl, rfl, hb, hr, hle, hc, hdd⟩ := hrel
        have HB := Lib.hid hb; clear hb
        have HRO := Lib.hid hr; clear hr
        have HLE := Lib.hid hle; clear hle
        have HC := Lib.hid hc; clear hc
        have HDD := Lib.hid hdd; clear hdd
        by_cases hlt : k < L.length
        · have HLK := Lib.hid hlt
          obtain ⟨p, hp⟩ : ∃ p, L[k]? = some p := ⟨_, List.getElem?_eq_getElem hlt⟩
          have HP := Lib.hid hp
          have hpn := HPT.out p (List.mem_of_getElem? hp)
          obtain ⟨gx, ox, rfl, hgx, q0, q1⟩ := HL.out.get (i := k) (x := castP p) (by rw [List.getElem?_map, hp]; rfl)
          replace q0 := cell_below HB.out q0
          replace q1 := cell_below HB.out q1
          obtain ⟨x, y⟩ := p
          obtain ⟨hxn, hyn⟩ := hpn
          simp only [castP] at q0 q1 hxn hyn
          have hmem : y ∈ toL L x := mem_to.2 (List.mem_of_getElem? hp)
          clear hp
          obtain ⟨gh, oh, rfl, hgh, t0⟩ := HH.out.get ((HD.out x hxn).1)
          obtain ⟨gh2, oh2, eg, _, t1⟩ := HH.out.get ((HD.out y hyn).1)
          injection eg with eg
          injection eg with eg1 eg2 _
          subst eg1 eg2
          replace t0 := cell_below HB.out t0
          replace t1 := cell_below HB.out t1
          have hax := HHN.out x hxn
          have hby := HHN.out y hyn
          have x0 := HRO.out.get (j := hd x) (u := iv (O (hd x) : Nat)) (by rw [List.getElem?_map, rk_get _ hax]; rfl)
          have x1 := HRO.out.get (j := hd y) (u := iv (O (hd y) : Nat)) (by rw [List.getElem?_map, rk_get _ hby]; rfl)
          have f0 := HRO.out.frozen (hd x)
          have hzl := HRO.out.lt
          have hob : O (hd y) ≤ 1000 := by have := HLE.out (hd y) hby; have := HRB.out (hd y) hby; omega
          have hoa : O (hd x) ≤ 1000 := by have := HLE.out (hd x) hax; have := HRB.out (hd x) hax; omega
          simp only [iv] at x0 x1
          have HUP : Hid (hd x ≠ hd y → O (hd x) ≤ O (hd y) → O (hd y) + 1 ≤ R (hd x)) := fun hne _ => by
            have hnm : ¬ Mut (toL L) x y := fun hm => hne (((HD.out x hxn).2.same (HD.out y hyn).2).2 hm)
            have h1 := HR.out.less x y hxn hmem hnm
            have h2 := HR.out.same x (hd x) hxn (HD.out x hxn).2.mem
            have h3 := HR.out.same y (hd y) hyn (HD.out y hyn).2.mem
            have h4 := HLE.out (hd y) hby
            omega
          clear hmem
          obtain ⟨a, hae⟩ : ∃ m, hd x = m := ⟨_, rfl⟩
          obtain ⟨c, hce⟩ : ∃ m, hd y = m := ⟨_, rfl⟩
          rw [hae] at t0 x0 f0 hax hoa HUP
          rw [hce] at t1 x1 hby hob HUP
          have HAE := Lib.hid hae; clear hae
          have HCE := Lib.hid hce; clear hce
          obtain ⟨u, hu⟩ : ∃ m, O a = m := ⟨_, rfl⟩
          obtain ⟨z, hz⟩ : ∃ m, O c = m := ⟨_, rfl⟩
          rw [hu] at x0 hoa HUP
          rw [hz] at x1 hob HUP
          have HU := Lib.hid hu; clear hu
          have HZ := Lib.hid hz; clear hz
          by_cases hac : a = c
          · subst hac
            go_wp2_with fail
            go_quiet (fail)
            go_wp2_with fail
            go_quiet (fail)
            go_wp2
            go_roundw
            case rel => exact ⟨k + 1, O, b, HLK.out, by go_num, rfl, (by repeat (first | exact HB.out | (with_reducible refine below_drewN ?_ _) | (with_reducible refine Below.drew ?_) | refine Below.setCell ?_ (by simp) _)), (HRO.out.below (by repeat (first | exact Below.refl _ _ | (with_reducible refine below_drewN ?_ _) | (with_reducible refine Below.drew ?_))) HRO.out.lt), HLE.out, fun e => ⟨(HC.out e).1, take_more HP.out (HC.out e).2 (fun h => absurd (HAE.out.trans HCE.out.symm) h)⟩, HDD.out⟩
            case measure => have := HLK.out; simp [intOf]; omega
          · have d1 : ¬ ((a : Int) = (c : Int)) := by omega
            have d2 : decide ((a : Int) = (c : Int)) = false := by simpa using d1
            have d3 : ((a : Int) == (c : Int)) = false := by simpa using d1
            have d4 : ((a : Int) != (c : Int)) = true := by simpa using d1
            by_cases hle : u ≤ z
            · have HNEW : Hid (z + 1 ≤ R a) := HUP.out hac hle
              have j1 : (u : Int) ≤ (z : Int) := by omega
              have j2 : decide ((u : Int) ≤ (z : Int)) = true := by simpa using hle
              have HSUM : Hid (sumO N R (updR O a (z + 1)) < sumO N R O0) := by
                have h1 := sum_upd (N := N) (y := a) (v := z + 1) (R := R) (O := O) hax (by rw [HU.out]; omega) HNEW.out
                unfold Hid
                cases b with
                | false => have := (HC.out rfl).1; omega
                | true => have := HDD.out rfl; omega
              clear hac hle
              go_wp2_with fail
              go_quiet (fail)
              go_wp2_with fail
              go_quiet (fail)
              go_wp2
              go_roundw
              case rel => exact ⟨k + 1, updR O a (z + 1), true, HLK.out, by go_num, rfl, (by repeat (first | exact HB.out | (with_reducible refine below_drewN ?_ _) | (with_reducible refine Below.drew ?_) | refine Below.setCell ?_ (by simp) _)), by
                have e : ((rkL N O).map iv).set a (.int .i64 ((z : Int) + 1)) = (rkL N (updR O a (z + 1))).map iv := by rw [← rk_upd _ _ hax, List.map_set]; rfl
                rw [← e]
                refine Row.set (HRO.out.below ?_ HRO.out.lt) a _
                repeat (first | exact Below.refl _ _ | (with_reducible refine below_drewN ?_ _) | (with_reducible refine Below.drew ?_)), fun q hq => by
                by_cases e : q = a
                · subst e
                  rw [updR_self]
                  exact HNEW.out
                · rw [updR_ne _ _ e]
                  exact HLE.out q hq, fun e => (by cases e), fun _ => HSUM.out⟩
              case measure => have := HLK.out; simp [intOf]; omega
            · have j1 : ¬ ((u : Int) ≤ (z : Int)) := by omega
              have j2 : decide ((u : Int) ≤ (z : Int)) = false := by simpa using j1
              have HGT : Hid (O (hd y) + 1 ≤ O (hd x)) := by unfold Hid; rw [HAE.out, HCE.out, HU.out, HZ.out]; omega
              clear hac hle
              go_wp2_with fail
              go_quiet (fail)
              go_wp2_with fail
              go_quiet (fail)
              go_wp2
              go_roundw
              case rel => exact ⟨k + 1, O, b, HLK.out, by go_num, rfl, (by repeat (first | exact HB.out | (with_reducible refine below_drewN ?_ _) | (with_reducible refine Below.drew ?_) | refine Below.setCell ?_ (by simp) _)), (HRO.out.below (by repeat (first | exact Below.refl _ _ | (with_reducible refine below_drewN ?_ _) | (with_reducible refine Below.drew ?_))) HRO.out.lt), HLE.out, fun e => ⟨(HC.out e).1, take_more HP.out (HC.out e).2 (fun _ => HGT.out)⟩, HDD.out⟩
              case measure => have := HLK.out; simp [intOf]; omega
        · obtain rfl : k = L.length := by omega
          go_wp2
          go_roundw
          case rel => exact ⟨O, b, rfl, HB.out, HRO.out, HLE.out, fun e => by have := (HC.out e).2; rw [List.take_length] at this; exact this⟩
          case measure =>
            rw [HC0.out, sum_row HRO.out]
            cases b with
            | false => have := (HC.out (by first | rfl | trivial)).1; simp [tI]; omega
            | true => have := HDD.out (by first | rfl | trivial); simp [tI]; omega

end Go.Proofs.Ytkmbjpgpkgeiaaa

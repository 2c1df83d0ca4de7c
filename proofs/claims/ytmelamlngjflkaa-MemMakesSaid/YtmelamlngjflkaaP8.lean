/- The contracts of the document's First, Firsts, Popped and Pop. -/
import Derived.Test.YtmelamlngjflkaaRows
import Derived.WalkKit
import Derived.ProofKit
import Derived.OpenShut
import Derived.Below
import Derived.Outline
import Derived.LoopTactic
import Derived.Test.YtmelamlngjflkaaRep
import Derived.Test.YtmelamlngjflkaaU
import Derived.Lib.Hide
import Derived.WalkSpells
import Derived.WalkLawsBesides
import Derived.RegionTactic
import Derived.BigRegion
import Derived.Deep.RegionWith
import Derived.Test.YtmelamlngjflkaaP4
import Derived.Test.YtmelamlngjflkaaK
import Derived.Test.YtmelamlngjflkaaN
namespace Go.Proofs.Ytmelamlngjflkaa
open Go.ChangeShapes Go.WideShapes Go.ChangeAt Go.RowKit
set_option linter.unusedVariables false

theorem rfirst_yes (k : Int) (h : kindB k = true) (w : World) : Calls Try.prog 62 #[.int .u8 k] w fun e w' => e = .returned (.tuple #[.agg #[.int .u8 k, .int .i64 0, .int .i64 0, .int .i64 0], .int .i64 0]) ∧ Below w.heap.size w w' := by
  have h' : 1 ≤ k ∧ k ≤ 3 := by simpa [kindB] using h
  obtain ⟨h1, h3⟩ := h'
  have d1 : decide (k < 1) = false := by simp; omega
  have d2 : decide (3 < k) = false := by simp; omega
  clear h h1 h3
  go_enter Try.func62, Try.ntmps62
  go_wp2
  exact bodyPost_ret (v := .tuple #[.agg #[.int .u8 k, .int .i64 0, .int .i64 0, .int .i64 0], .int .i64 0]) (by simp [results, Try.results62, go_sem]) rfl ⟨rfl, by repeat (first | exact Below.refl _ _ | refine Below.setCell ?_ (by simp) _ | refine Below.alloc ?_ (by simp) _)⟩
theorem rfirst_not (k : Int) (h0 : 0 ≤ k) (h : kindB k = false) (w : World) : Calls Try.prog 62 #[.int .u8 k] w fun e w' => e = .returned (.tuple #[.agg #[.int .u8 0, .int .i64 0, .int .i64 0, .int .i64 0], .int .i64 2]) ∧ Below w.heap.size w w' := by
  have h' : k < 1 ∨ 3 < k := by
    have : ¬ (1 ≤ k ∧ k ≤ 3) := by simpa [kindB] using h
    omega
  rcases h' with h1 | h1
  · have d1 : decide (k < 1) = true := by simpa using h1
    clear h h1
    go_enter Try.func62, Try.ntmps62
    go_wp2
    exact bodyPost_ret (v := .tuple #[.agg #[.int .u8 0, .int .i64 0, .int .i64 0, .int .i64 0], .int .i64 2]) (by simp [results, Try.results62, go_sem]) rfl ⟨rfl, by repeat (first | exact Below.refl _ _ | refine Below.setCell ?_ (by simp) _ | refine Below.alloc ?_ (by simp) _)⟩
  · have d1 : decide (k < 1) = false := by simp; omega
    have d2 : decide (3 < k) = true := by simpa using h1
    clear h h1
    go_enter Try.func62, Try.ntmps62
    go_wp2
    exact bodyPost_ret (v := .tuple #[.agg #[.int .u8 0, .int .i64 0, .int .i64 0, .int .i64 0], .int .i64 2]) (by simp [results, Try.results62, go_sem]) rfl ⟨rfl, by repeat (first | exact Below.refl _ _ | refine Below.setCell ?_ (by simp) _ | refine Below.alloc ?_ (by simp) _)⟩

def FirstsP (l : List Int) (w : World) (e : Ending) (w' : World) : Prop :=
  ∃ v : Value, e = .returned (.tuple #[v, .bool (kindsB l)]) ∧ (kindsB l = true → w'.ownsRow w.heap.size 24 4 v l.length (rowOf l l.length)) ∧ Below w.heap.size w w'
theorem kinds_no {l : List Int} {k : Int} (hk : k ∈ l) (h : kindB k = false) : kindsB l = false := by
  unfold kindsB
  rw [List.all_eq_false]
  exact ⟨k, hk, by simp [h]⟩
theorem kinds_yes {l : List Int} (h : ∀ k ∈ l, kindB k = true) : kindsB l = true := by
  unfold kindsB
  rw [List.all_eq_true]
  exact h
theorem rowOf_more {l : List Int} {k : Nat} {x : Int} (hx : l[k]? = some x) : rowOf l (k + 1) = rowOf l k ++ valCells (firstV x) := by
  obtain ⟨hk, rfl⟩ := List.getElem?_eq_some_iff.1 hx
  exact rowOf_succ hk

set_option maxHeartbeats 2000000 in
theorem firsts_any {lv : Value} {l : List Int} (w : World) (hl : KsAt w lv l) (hlx : l.length ≤ 40) : Calls Try.prog 45 #[lv] w (FirstsP l w) := by
  have hl' := hl
  obtain ⟨A, c, rfl, hlm, _, _⟩ := hl'
  have HL := Lib.hid hl; clear hl
  obtain ⟨i0, hi, hzz⟩ := Option.map_eq_some_iff.1 info24
  simp only [Prod.mk.injEq] at hzz
  obtain ⟨hz0, hz1, hz2⟩ := hzz
  have HI0 := Lib.hid hi; clear hi
  have HZ0 := Lib.hid hz0; clear hz0
  have HZ1 := Lib.hid hz1; clear hz1
  have HZ2 := Lib.hid hz2; clear hz2
  go_enter Try.func45, Try.ntmps45
  go_wp2_with fail
  go_loopw [4, 5, 6, 7] (fun s i _ _ wr => ∃ k : Nat, k ≤ l.length ∧ i = .int .i64 k ∧ wr.ownsRow w.heap.size 24 4 s k (rowOf l k) ∧ Below w.heap.size w wr ∧ Hid (∀ x ∈ l.take k, kindB x = true)) (fun _ i _ _ _ => l.length - (intOf i).toNat)
  case atStart => exact ⟨0, Nat.zero_le _, rfl, World.ownsRow_nil _ _ _ _, Below.refl _ _, by unfold Hid; simp⟩
  case round =>
    obtain ⟨k, hk, rfl, hown, hb, HK⟩ := hrel
    have HB := Lib.hid hb; clear hb
    have HOWN := Lib.hid hown
    obtain ⟨Ah, ch, rfl⟩ := own_slice hown
    clear hown
    by_cases hlt : k < l.length
    · have HLT := Lib.hid hlt
      obtain ⟨x, hx⟩ : ∃ x, l[k]? = some x := ⟨_, List.getElem?_eq_getElem hlt⟩
      have HX := Lib.hid hx
      obtain ⟨ga, oa, rfl, hga, hx0, hxc⟩ := HL.out.get hx
      have xc := cell_below HB.out hxc
      have hgr : ga < wr.heap.size := Nat.lt_of_lt_of_le hga HB.out.size
      clear hxc hx
      cases hkb : kindB x
      · have HKB := Lib.hid hkb; clear hkb
        have E := Lib.hid (kinds_no (List.mem_of_getElem? HX.out) HKB.out)
        go_wp2_with fail
        (with_reducible refine (rfirst_not _ hx0 HKB.out _).mono ?_); rintro e w2 ⟨rfl, h2⟩
        have H2 := Lib.hid (HB.out.trans (h2.mono HB.out.size))
        clear h2 xc
        go_wp2
        go_ret2
        exact ⟨_, by rw [E.out]; rfl, fun e => by rw [E.out] at e; (first | exact absurd e (by decide) | cases e), H2.out.alloc H2.out.size _⟩
      · have HKB := Lib.hid hkb; clear hkb
        go_wp2_with fail
        (with_reducible refine (rfirst_yes _ HKB.out _).mono ?_); rintro e w2 ⟨rfl, h2⟩
        have H2 := Lib.hid h2
        have HB2 := Lib.hid (HB.out.trans (h2.mono HB.out.size))
        clear h2 xc
        have hone : Hid (∀ u ∈ valCells (firstV x), u.oneCell' = true) := by
          intro u hu
          simp only [valCells, List.mem_cons, List.not_mem_nil, or_false] at hu
          rcases hu with rfl | rfl | rfl | rfl <;> rfl
        go_wp2_with (at_builtin; refine wpList_append_own_at _ rfl _ _ 37 rfl w.heap.size 24 i0 _ 4 32 Try.underlying37 HI0.out HZ0.out HZ1.out HZ2.out rfl (by decide) _ k (rowOf l k) rfl ?c0 _ 1 1 (valCells (firstV x)) rfl rfl ?c1 hone.out ?c3 ?c4 ?c5 ?_)
        case c0 => exact ((own_below HOWN.out H2.out).alloc _).alloc _
        case c1 =>
          intro j u hj
          rw [add_at]
          match j, hj with
          | 0, hj => injection hj with hj; subst hj; simp [firstV]
          | 1, hj => injection hj with hj; subst hj; simp [firstV]
          | 2, hj => injection hj with hj; subst hj; simp [firstV]
          | 3, hj => injection hj with hj; subst hj; simp [firstV]
          | j + 4, hj => cases hj
        case c3 => simp only [maxLen]; omega
        case c4 => omega
        case c5 => have := HB2.out.size; simp; omega
        intro v' w' hown' hgrow _ hat
        have HN' := Lib.hid hown'; clear hown'
        have HB3 : Hid (Below w.heap.size w w') := ((HB2.out.alloc HB2.out.size _).alloc (by have := HB2.out.size; simp; omega) _).grown hgrow (by have := HB2.out.size; simp; omega) (fun q hq => own_base HOWN.out q hq)
        clear hgrow hat
        go_wp2
        go_roundw
        case rel => exact ⟨k + 1, HLT.out, by go_num, by rw [rowOf_more HX.out]; exact HN'.out, HB3.out, take_more HX.out HK.out HKB.out⟩
        case measure => have := HLT.out; simp [intOf]; omega
    · have : k = l.length := by omega
      subst this
      have E := Lib.hid (kinds_yes (l := l) (by have := HK.out; rwa [List.take_length] at this))
      go_wp2
      go_ret2
      exact ⟨_, by rw [E.out]; rfl, fun _ => HOWN.out, HB.out⟩

theorem popK_more {d : Int} {m : List Blk} {k : Nat} {b : Blk} (hb : m[k]? = some b) : popK d m (k + 1) = (popK d m k).set k (popB d b) := by
  obtain ⟨hk, rfl⟩ := List.getElem?_eq_some_iff.1 hb
  exact popK_succ d m k hk

set_option maxHeartbeats 2000000 in
theorem popped_any {m : List Blk} {v : Value} (d : Int) (w : World) (hm : BsAt w v m) (hmx : m.length ≤ 4096) (hcx : ∀ b ∈ m, b.cells.length ≤ 40) : Calls Try.prog 47 #[v, .int .i64 d] w (TwinP (m.map (popB d)) w) := by
  have HM := Lib.hid hm; clear hm
  have HCX := Lib.hid hcx; clear hcx
  go_enter Try.func47, Try.ntmps47
  go_wp2_with fail
  refine (rtwin_any _ HM.out hmx HCX.out).mono ?_
  rintro e w2 ⟨v2, rfl, hlay, h2⟩
  have B2 := Lib.hid h2
  obtain ⟨A2, c2, rfl, hl2⟩ := hlay.len
  have HLAY := Lib.hid hlay
  clear hlay h2
  go_wp2_with fail
  go_loopw [6] (fun i wr => ∃ k : Nat, k ≤ m.length ∧ i = .int .i64 k ∧ Lay w.heap.size wr (.slice A2 m.length c2) (popK d m k) ∧ Below w.heap.size w wr) (fun i _ => m.length - (intOf i).toNat)
  case atStart => exact ⟨0, Nat.zero_le _, rfl, by rw [popK_zero]; exact HLAY.out, B2.out⟩
  case round =>
    obtain ⟨k, hk, rfl, hlay, hb⟩ := hrel
    have HB := Lib.hid hb; clear hb
    have HL := Lib.hid hlay
    by_cases hlt : k < m.length
    · have HLT := Lib.hid hlt
      obtain ⟨g2, cap, ps, e, _, hbg, hg2, _, _, _⟩ := hlay.form (by rw [popK_len]; omega)
      injection e with e1 _ e3
      subst e1 e3
      obtain ⟨b, hbk⟩ : ∃ b, m[k]? = some b := ⟨_, List.getElem?_eq_getElem hlt⟩
      have hbk2 : (popK d m k)[k]? = some b := by rw [popK_at d m k hlt, ← hbk, List.getElem?_eq_getElem hlt]
      obtain ⟨_, _, r2, r3, hfr0, _, _⟩ := hlay.head hbk2
      have hfr : wr.frozen? ⟨g2, k * 5 + 3, none⟩ = false := hfr0 _
      have HBE := Lib.hid hbk
      have HBK2 := Lib.hid hbk2
      clear hlay hfr0 hbk hbk2
      by_cases hd2 : d ≤ b.dep
      · have E : Hid (popB d b = { b with alive := false }) := by unfold Hid popB; rw [if_pos hd2]
        go_wp2
        go_roundw
        case rel =>
          refine ⟨k + 1, HLT.out, by go_num, ?_, HB.out.setCell hbg _⟩
          rw [popK_more HBE.out, E.out]
          exact HL.out.field HBK2.out (b' := { b with alive := false }) rfl (j := 3) (by omega) (u := .bool false) (fun _ => rfl)
        case measure => have := HLT.out; simp [intOf]; omega
      · have E : Hid (popB d b = b) := by unfold Hid popB; rw [if_neg hd2]
        go_wp2
        go_roundw
        case rel =>
          refine ⟨k + 1, HLT.out, by go_num, ?_, HB.out⟩
          rw [popK_more HBE.out, E.out]
          have e := (List.getElem?_eq_some_iff.1 HBK2.out).2
          have : (popK d m k).set k b = popK d m k := by
            conv => lhs; rw [← e]
            exact List.set_getElem_self _
          rw [this]
          exact HL.out
        case measure => have := HLT.out; simp [intOf]; omega
    · have : k = m.length := by omega
      subst this
      clear hlay
      go_wp2
      go_ret
      have := HL.out
      rw [popK_all] at this
      exact ⟨_, rfl, this, HB.out⟩

theorem rpop_any {m : List Blk} {v : Value} (d : Int) (w : World) (hm : BsAt w v m) : Calls Try.prog 25 #[v, .int .i64 d] w (MadeP (popR m d) (popI m d) w) := by
  have HM := Lib.hid hm; clear hm
  cases h : mayM m
  · have e : popI m d = 8 := by simp [popI, h]
    rw [popR, e, if_neg (by decide)]
    have HY := Lib.hid h; clear h e
    go_enter Try.func25, Try.ntmps25
    go_wp2_with fail
    (with_reducible refine (rmay_at (b := false) _ HM.out HY.out).mono ?_); rintro e w1 ⟨rfl, h1⟩
    have H1 := Lib.hid h1; clear h1
    go_wp2
    go_ret2
    exact ⟨_, rfl, Lay.no _ _, H1.out⟩
  · by_cases hd : d < 1
    · have e : popI m d = 2 := by simp [popI, h, hd]
      rw [popR, e, if_neg (by decide)]
      have HY := Lib.hid h; clear h e
      go_enter Try.func25, Try.ntmps25
      go_wp2_with fail
      (with_reducible refine (rmay_at (b := true) _ HM.out HY.out).mono ?_); rintro e w1 ⟨rfl, h1⟩
      have H1 := Lib.hid h1; clear h1
      go_wp2
      go_ret2
      exact ⟨_, rfl, Lay.no _ _, H1.out⟩
    · have e : popI m d = 0 := by simp [popI, h, hd]
      rw [popR, e, if_pos rfl]
      have HML := Lib.hid (mayM_len h)
      have HY := Lib.hid h; clear h e
      go_enter Try.func25, Try.ntmps25
      go_wp2_with fail
      (with_reducible refine (rmay_at (b := true) _ HM.out HY.out).mono ?_); rintro e w1 ⟨rfl, h1⟩
      have H1 := Lib.hid h1; clear h1
      go_wp2_with fail
      (with_reducible refine (popped_any d _ (HM.out.below H1.out) HML.out.1 HML.out.2).mono ?_); rintro e w2 ⟨v2, rfl, lay, h2⟩
      have LY := Lib.hid (lay.lower (base' := w.heap.size) H1.out.size)
      have B2 := Lib.hid (H1.out.trans (h2.mono H1.out.size))
      clear lay h2
      go_wp2
      go_ret2
      exact ⟨_, rfl, LY.out, B2.out⟩

end Go.Proofs.Ytmelamlngjflkaa

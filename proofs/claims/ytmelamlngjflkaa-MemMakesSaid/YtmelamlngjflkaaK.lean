/- The contract of Pop: what it answers is the memory, without the blocks of a depth or a greater one, in blocks of its own; or nothing, and the error. -/
import Derived.Test.YtmelamlngjflkaaRows
import Derived.WalkKit
import Derived.ProofKit
import Derived.OpenShut
import Derived.Below
import Derived.Outline
import Derived.LoopTactic
import Derived.Test.YtmelamlngjflkaaRep
import Derived.Test.YtmelamlngjflkaaU
import Derived.Lib.Hide
import Derived.Test.YtmelamlngjflkaaJ
namespace Go.Proofs.Ytmelamlngjflkaa
open Go.ChangeShapes Go.WideShapes Go.ChangeAt Go.RowKit
set_option linter.unusedVariables false

def popB (d : Int) (b : Blk) : Blk := if d ≤ b.dep then { b with alive := false } else b
def popK (d : Int) (m : List Blk) (k : Nat) : List Blk := (m.take k).map (popB d) ++ m.drop k
theorem popK_zero (d : Int) (m : List Blk) : popK d m 0 = m := by simp [popK]
theorem popK_all (d : Int) (m : List Blk) : popK d m m.length = m.map (popB d) := by simp [popK]
theorem popK_len (d : Int) (m : List Blk) (k : Nat) : (popK d m k).length = m.length := by simp [popK]; omega
theorem popK_at (d : Int) (m : List Blk) (k : Nat) (hk : k < m.length) : (popK d m k)[k]? = some m[k] := by
  unfold popK
  rw [List.getElem?_append_right (by simp; omega)]
  simp [Nat.min_eq_left (Nat.le_of_lt hk), hk]
theorem popK_succ (d : Int) (m : List Blk) (k : Nat) (hk : k < m.length) : popK d m (k + 1) = (popK d m k).set k (popB d m[k]) := by
  unfold popK
  rw [List.take_succ_eq_append_getElem hk, List.map_append, List.append_assoc, List.set_append_right _ _ (by simp; omega)]
  congr 1
  simp only [List.length_map, List.length_take, Nat.min_eq_left (Nat.le_of_lt hk), Nat.sub_self, List.map_cons, List.map_nil]
  rw [List.drop_eq_getElem_cons hk, List.set_cons_zero]
  rfl
def popI (m : List Blk) (d : Int) : Int := if mayM m then (if d < 1 then 2 else 0) else 8
def popR (m : List Blk) (d : Int) : List Blk := if popI m d = 0 then m.map (popB d) else []

theorem pop_no {m : List Blk} {v : Value} (d : Int) (w : World) (hm : BsAt w v m) (h : mayM m = false) : Calls Try.prog 17 #[v, .int .i64 d] w (MadeP [] 8 w) := by
  have HM := Lib.hid hm; clear hm
  have HI := Lib.hid h; clear h
  go_enter Try.func17, Try.ntmps17
  go_wp2_with fail
  (with_reducible refine (check_no _ HM.out HI.out).mono ?_); rintro e w1 ⟨rfl, h1⟩
  have H1 := Lib.hid h1; clear h1
  go_wp2
  go_ret2
  exact ⟨_, rfl, Lay.no _ _, H1.out⟩

theorem pop_low {m : List Blk} {v : Value} (d : Int) (hd : d < 1) (w : World) (hm : BsAt w v m) (h : mayM m = true) : Calls Try.prog 17 #[v, .int .i64 d] w (MadeP [] 2 w) := by
  have HM := Lib.hid hm; clear hm
  have HI := Lib.hid h; clear h
  go_enter Try.func17, Try.ntmps17
  go_wp2_with fail
  (with_reducible refine (check_yes _ HM.out HI.out).mono ?_); rintro e w1 ⟨rfl, h1⟩
  have H1 := Lib.hid h1; clear h1
  go_wp2
  go_ret2
  exact ⟨_, rfl, Lay.no _ _, H1.out⟩

set_option maxHeartbeats 1000000 in
theorem pop_good {m : List Blk} {v : Value} (d : Int) (hd : ¬ d < 1) (w : World) (hm : BsAt w v m) (h : mayM m = true) : Calls Try.prog 17 #[v, .int .i64 d] w (MadeP (m.map (popB d)) 0 w) := by
  have HM := Lib.hid hm; clear hm
  have HML := Lib.hid (mayM_len h)
  have HI := Lib.hid h; clear h
  go_enter Try.func17, Try.ntmps17
  go_wp2_with fail
  (with_reducible refine (check_yes _ HM.out HI.out).mono ?_); rintro e w1 ⟨rfl, h1⟩
  have H1 := Lib.hid h1; clear h1
  go_wp2_with fail
  refine (twin_any _ (HM.out.below H1.out) HML.out.1 HML.out.2).mono ?_
  rintro e w2 ⟨v2, rfl, hlay, h2⟩
  have B2 : Hid (Below w.heap.size w w2) := H1.out.trans (h2.mono H1.out.size)
  obtain ⟨A2, c2, rfl, hl2⟩ := hlay.len
  have HLAY := Lib.hid (hlay.lower (base' := w.heap.size) H1.out.size)
  clear hlay h2
  go_wp2
  go_loopw [8, 20] (fun _ i wr => ∃ k : Nat, k ≤ m.length ∧ i = .int .i64 k ∧ Lay w.heap.size wr (.slice A2 m.length c2) (popK d m k) ∧ Below w.heap.size w wr) (fun _ i _ => m.length - (intOf i).toNat)
  case atStart => exact ⟨0, Nat.zero_le _, rfl, by rw [popK_zero]; exact HLAY.out, B2.out⟩
  case round =>
    obtain ⟨k, hk, rfl, hlay, hb⟩ := hrel
    have HB := Lib.hid hb; clear hb
    have HL := Lib.hid hlay
    by_cases hlt : k < m.length
    · obtain ⟨g2, cap, ps, e, _, hbg, hg2, _, _, _⟩ := hlay.form (by rw [popK_len]; omega)
      injection e with e1 _ e3
      subst e1 e3
      obtain ⟨_, _, r2, r3, hfr0, _, _⟩ := hlay.head (popK_at d m k hlt)
      have hfr : wr.frozen? ⟨g2, k * 5 + 3, none⟩ = false := hfr0 _
      clear hlay hfr0
      by_cases hd2 : d ≤ m[k].dep
      · have E : Hid (popB d m[k] = { m[k] with alive := false }) := by unfold Hid popB; rw [if_pos hd2]
        go_wp2
        go_roundw
        case rel =>
          refine ⟨k + 1, by omega, by go_num, ?_, HB.out.setCell hbg _⟩
          rw [popK_succ d m k hlt, E.out]
          exact HL.out.field (popK_at d m k hlt) (b' := { m[k] with alive := false }) rfl (j := 3) (by omega) (u := .bool false) (fun _ => rfl)
        case measure => simp [intOf]; omega
      · have E : Hid (popB d m[k] = m[k]) := by unfold Hid popB; rw [if_neg hd2]
        go_wp2
        go_roundw
        case rel =>
          refine ⟨k + 1, by omega, by go_num, ?_, HB.out⟩
          rw [popK_succ d m k hlt, E.out]
          have e := (List.getElem?_eq_some_iff.1 (popK_at d m k hlt)).2
          have : (popK d m k).set k m[k] = popK d m k := by
            conv => lhs; rw [← e]
            exact List.set_getElem_self _
          rw [this]
          exact HL.out
        case measure => simp [intOf]; omega
    · have : k = m.length := by omega
      subst this
      clear hlay
      go_wp2
      go_ret2
      have := HL.out
      rw [popK_all] at this
      exact ⟨_, rfl, this, HB.out⟩

theorem pop_any {m : List Blk} {v : Value} (d : Int) (w : World) (hm : BsAt w v m) : Calls Try.prog 17 #[v, .int .i64 d] w (MadeP (popR m d) (popI m d) w) := by
  cases h : mayM m
  · have e : popI m d = 8 := by simp [popI, h]
    rw [popR, e, if_neg (by decide)]
    exact pop_no d w hm h
  · by_cases hd : d < 1
    · have e : popI m d = 2 := by simp [popI, h, hd]
      rw [popR, e, if_neg (by decide)]
      exact pop_low d hd w hm h
    · have e : popI m d = 0 := by simp [popI, h, hd]
      rw [popR, e, if_pos rfl]
      exact pop_good d hd w hm h

end Go.Proofs.Ytmelamlngjflkaa

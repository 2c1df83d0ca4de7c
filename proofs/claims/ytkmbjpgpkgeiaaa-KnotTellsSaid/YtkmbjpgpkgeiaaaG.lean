/- The chapter's example is alive. -/
import Derived.Test.YtkmbjpgpkgeiaaaRows
import Derived.WalkKit
import Derived.ProofKit
import Derived.OpenShut
import Derived.Below
import Derived.Outline
import Derived.LoopTactic
import Derived.Lib.Hide
import Derived.WalkSpells
import Derived.RegionTactic
import Derived.BigRegion
import Derived.Deep.QuietTactic
import Derived.BigQuiet
import Derived.Deep.RegionWith
import Derived.Test.YtkmbjpgpkgeiaaaH2
import Derived.Test.YtkmbjpgpkgeiaaaH3
namespace Go.Proofs.Ytkmbjpgpkgeiaaa
open Go.ChangeShapes Go.WideShapes Go.ChangeAt Go.RowKit
set_option linter.unusedVariables false

def chN : List (Nat × Nat) := [(0, 1), (1, 2), (2, 1), (2, 3)]
def chL : List (Int × Int) := [(0, 1), (1, 2), (2, 1), (2, 3)]
theorem ch_map : chN.map castP = chL := rfl
theorem ch_toN : toN chL = chN := rfl
def chS (a : Nat) : List Nat := if a = 0 then [0, 1, 2, 3] else if a = 1 ∨ a = 2 then [1, 2, 3] else [a]
theorem ch_step (a x y : Nat) (hx : x ∈ chS a) (hy : y ∈ toL chN x) : y ∈ chS a := by
  have hm := mem_to.1 hy
  simp only [chN, List.mem_cons, Prod.mk.injEq, List.not_mem_nil, or_false] at hm
  unfold chS at hx ⊢
  split at hx
  · rename_i h
    rw [if_pos h]
    rcases hm with ⟨_, rfl⟩ | ⟨_, rfl⟩ | ⟨_, rfl⟩ | ⟨_, rfl⟩ <;> simp
  · rename_i h
    rw [if_neg h]
    split at hx
    · rename_i h2
      rw [if_pos h2]
      rcases hm with ⟨_, rfl⟩ | ⟨_, rfl⟩ | ⟨_, rfl⟩ | ⟨_, rfl⟩ <;> simp
    · rename_i h2
      have : x = a := by simpa using hx
      omega
theorem ch_self (a : Nat) : a ∈ chS a := by
  unfold chS
  split
  · rename_i h; simp [h]
  · split
    · rename_i h; rcases h with h | h <;> simp [h]
    · simp
theorem ch_reach {a b : Nat} (h : Reach (toL chN) a b) : b ∈ chS a := by
  induction h with
  | refl => exact ch_self a
  | step _ hb ih => exact ch_step a _ _ ih hb
theorem ch_12 : Mut (toL chN) 1 2 := ⟨Reach.one (mem_to.2 (by decide)), Reach.one (mem_to.2 (by decide))⟩
theorem ch_lt (a b : Nat) (h : b ∈ toL chN a) : b < 4 := to_lt (L := chN) (n := 4) (by decide) a b h
theorem ch_heads : HeadL (toL chN) 4 [0, 1, 1, 3] := by
  refine ⟨rfl, fun a ha => ?_⟩
  match a, ha with
  | 0, _ => exact ⟨0, rfl, Mut.refl _ _, fun b _ => Nat.zero_le _⟩
  | 1, _ => exact ⟨1, rfl, Mut.refl _ _, fun b hb => by
      have := ch_reach hb.1
      simp [chS] at this
      omega⟩
  | 2, _ => exact ⟨1, rfl, ch_12.symm, fun b hb => by
      have := ch_reach hb.1
      simp [chS] at this
      omega⟩
  | 3, _ => exact ⟨3, rfl, Mut.refl _ _, fun b hb => by
      have := ch_reach hb.1
      simp [chS] at this
      omega⟩
def chR (a : Nat) : Nat := [2, 1, 1, 0].getD a 0
theorem ch_ranks : RankL (toL chN) 4 [2, 1, 1, 0] := by
  refine ⟨rfl, chR, ⟨fun a b ha hm => ?_, fun a b ha hb hm => ?_, fun a ha => ?_⟩, fun a ha => ?_, fun a ha => ?_⟩
  · have h1 := ch_reach hm.1
    have h2 := ch_reach hm.2
    match a, ha with
    | 0, _ =>
      simp only [chS, if_true, List.mem_cons, List.not_mem_nil, or_false] at h1
      rcases h1 with rfl | rfl | rfl | rfl
      · rfl
      · simp [chS] at h2
      · simp [chS] at h2
      · simp [chS] at h2
    | 1, _ =>
      simp [chS] at h1
      rcases h1 with rfl | rfl | rfl
      · rfl
      · rfl
      · simp [chS] at h2
    | 2, _ =>
      simp [chS] at h1
      rcases h1 with rfl | rfl | rfl
      · rfl
      · rfl
      · simp [chS] at h2
    | 3, _ =>
      simp [chS] at h1
      subst h1
      rfl
  · have hp := mem_to.1 hb
    simp only [chN, List.mem_cons, Prod.mk.injEq, List.not_mem_nil, or_false] at hp
    rcases hp with ⟨rfl, rfl⟩ | ⟨rfl, rfl⟩ | ⟨rfl, rfl⟩ | ⟨rfl, rfl⟩
    · decide
    · exact absurd ch_12 hm
    · exact absurd ch_12.symm hm
    · decide
  · match a, ha with
    | 0, _ => exact .inr ⟨0, 1, Mut.refl _ _, mem_to.2 (by decide), fun h => by have := ch_reach h.2; simp [chS] at this, rfl⟩
    | 1, _ => exact .inr ⟨2, 3, ch_12, mem_to.2 (by decide), fun h => by have := ch_reach h.2; simp [chS] at this, rfl⟩
    | 2, _ => exact .inr ⟨2, 3, Mut.refl _ _, mem_to.2 (by decide), fun h => by have := ch_reach h.2; simp [chS] at this, rfl⟩
    | 3, _ => exact .inl rfl
  · match a, ha with
    | 0, _ => rfl
    | 1, _ => rfl
    | 2, _ => rfl
    | 3, _ => rfl
  · match a, ha with
    | 0, _ | 1, _ | 2, _ | 3, _ => decide
theorem ch_chk : chkI 4 chL = 0 := by decide

theorem chapter_any (w : World) : Calls Try.prog 14 #[] w fun e w' => (∃ v : Value, e = .returned v ∧ EsAt w' v chL) ∧ Below w.heap.size w w' := by
  go_enter Try.func14, Try.ntmps14
  go_wp2
  go_ret
  refine ⟨⟨_, rfl, _, _, rfl, by decide, fun k x hk => ⟨w.heap.size, 0, rfl, ?_, ?_⟩⟩, (by repeat (first | exact Below.refl _ _ | (with_reducible refine Below.drew ?_) | refine Below.setCell ?_ (by simp) _ | refine Below.alloc ?_ (by first | omega | (simp; done) | (simp; omega)) _))⟩
  · match k, hk with
    | 0, hk | 1, hk | 2, hk | 3, hk => (injection hk with hk; subst hk; simp)
  · match k, hk with
    | 0, hk | 1, hk | 2, hk | 3, hk => (injection hk with hk; subst hk; simp)

theorem lit4 (w : World) (a b c d : Int) : IsAt (w.alloc (.cells #[.int .i64 a, .int .i64 b, .int .i64 c, .int .i64 d] 3)) (.slice (some ⟨w.heap.size, 0, none⟩) 4 4) [a, b, c, d] :=
  Row.isAt (xs := [a, b, c, d]) (Row.new w 3 [.int .i64 a, .int .i64 b, .int .i64 c, .int .i64 d]) rfl (by decide)

theorem heads_ch {v : Value} {w : World} (h : EsAt w v chL) : Calls Try.prog 10 #[.int .i64 4, v] w fun e w' => ∃ x : Value, e = .returned (.tuple #[x, .int .i64 0]) ∧ IsAt w' x [0, 1, 1, 3] ∧ Below w.heap.size w w' :=
  (heads_any 4 w h).mono (fun e w' => by
    rintro ⟨x, xs, rfl, hx, h2, _, hh⟩
    have e := (hh 4 rfl ch_chk).unique (by rw [ch_toN]; exact ch_heads)
    subst e
    exact ⟨x, by rw [ch_chk], hx, h2⟩)
theorem ranks_ch {v : Value} {w : World} (h : EsAt w v chL) : Calls Try.prog 12 #[.int .i64 4, v] w fun e w' => ∃ x : Value, e = .returned (.tuple #[x, .int .i64 0]) ∧ IsAt w' x [2, 1, 1, 0] ∧ Below w.heap.size w w' :=
  (ranks_any 4 w h).mono (fun e w' => by
    rintro ⟨x, xs, rfl, hx, h2, _, hh⟩
    have hq : RankL (toL chN) 4 xs := by have := hh 4 rfl ch_chk; rw [ch_toN] at this; exact this
    have e := hq.unique ch_lt ch_ranks
    subst e
    exact ⟨x, by rw [ch_chk], hx, h2⟩)

theorem is_lift {wk w2 : World} {o : Obj} {v : Value} {l : List Int} (h : IsAt wk v l) (hb : Below (wk.alloc o).heap.size (wk.alloc o) w2) : IsAt w2 v l := (h.below ((Below.refl _ _).alloc (Nat.le_refl _) o)).below hb
theorem below_lift {w wk w2 : World} {o : Obj} (h : Below w.heap.size w wk) (hb : Below (wk.alloc o).heap.size (wk.alloc o) w2) : Below w.heap.size w w2 := (Below.alloc h h.size o).trans (hb.mono (by have := h.size; simp; omega))
theorem same_same {l : List Int} {v u : Value} (w : World) (hl : IsAt w v l) (hm : IsAt w u l) : Calls Try.prog 18 #[v, u] w fun e w' => e = .returned (.bool true) ∧ Below w.heap.size w w' := by
  have := sameInts_any w hl hm
  rw [decide_eq_true rfl] at this
  exact this
set_option maxHeartbeats 4000000 in
theorem alive_any (w : World) : Calls Try.prog 8 #[] w fun e w' => e = .returned (.bool true) ∧ Below w.heap.size w w' := by
  have BX : Hid (Below w.heap.size w w) := Below.refl _ _
  have FL : Hid (0 = 0) := rfl
  go_enter Try.func8, Try.ntmps8
  go_wp2_with (first
    | (go_at_call 14; refine (chapter_any _).mono ?_; rintro e w1 ⟨⟨v, rfl, hes⟩, h1⟩; have HX := Lib.hid (HX.out.below h1); have HE := Lib.hid hes; have BX := Lib.hid (BX.out.trans (h1.mono BX.out.size)); clear hes h1)
    | (go_at_call 14; refine (chapter_any _).mono ?_; rintro e w1 ⟨⟨v, rfl, hes⟩, h1⟩; have HE := Lib.hid hes; have BX := Lib.hid (BX.out.trans (h1.mono BX.out.size)); clear hes h1)
    | (go_at_call 10; refine (heads_ch HE.out).mono ?_; rintro e w2 ⟨x, rfl, hx, h1⟩; have HX := Lib.hid hx; have BX := Lib.hid (BX.out.trans (h1.mono BX.out.size)); obtain ⟨Ax, cx, rfl, _, _⟩ := hx; clear h1)
    | (go_at_call 12; refine (ranks_ch HE.out).mono ?_; rintro e w2 ⟨y, rfl, hy, h1⟩; have HX := Lib.hid (HX.out.below h1); have HY := Lib.hid hy; have BX := Lib.hid (BX.out.trans (h1.mono BX.out.size)); obtain ⟨Ay, cy, rfl, _, _⟩ := hy; clear h1)
    | (go_at_call 18; clear FL; refine (same_same _ (HX.out.below ((Below.refl _ _).alloc (Nat.le_refl _) _)) (lit4 _ 0 1 1 3)).mono ?_; rintro e w2 ⟨rfl, h1⟩; have HY := Lib.hid (is_lift HY.out h1); have BX := Lib.hid (below_lift BX.out h1); clear h1)
    | (go_at_call 18; refine (same_same _ (HY.out.below ((Below.refl _ _).alloc (Nat.le_refl _) _)) (lit4 _ 2 1 1 0)).mono ?_; rintro e w2 ⟨rfl, h1⟩; have BX := Lib.hid (below_lift BX.out h1); clear h1))
  go_wp2
  go_ret
  exact ⟨rfl, BX.out⟩

end Go.Proofs.Ytkmbjpgpkgeiaaa

/- How graphs and lists of numbers lie in memory; the contracts of the small functions: check, great, SameInts, Min, Index. -/
import Derived.Test.YtkmbjpgpkgeiaaaRows
import Derived.WalkKit
import Derived.ProofKit
import Derived.OpenShut
import Derived.Below
import Derived.Outline
import Derived.LoopTactic
import Derived.Lib.Hide
import Derived.WalkSpells
import Derived.RegionTactic
import Derived.BigRegion
import Derived.Deep.QuietTactic
import Derived.BigQuiet
import Derived.Deep.RegionWith
namespace Go.Proofs.Ytkmbjpgpkgeiaaa
open Go.ChangeShapes Go.WideShapes Go.ChangeAt Go.RowKit
set_option linter.unusedVariables false

/-! ### Lists in memory -/
/-- A list of arrows. -/
def EsAt (w : World) (v : Value) (l : List (Int × Int)) : Prop :=
  ∃ A c, v = .slice A l.length c ∧ l.length ≤ 9223372036854775807 ∧ ∀ k x, l[k]? = some x → ∃ g o, A = some ⟨g, o, none⟩ ∧ w.cell? ⟨g, o + k * 2, none⟩ = some (.int .i64 x.1) ∧ w.cell? ⟨g, o + k * 2 + 1, none⟩ = some (.int .i64 x.2)
/-- A list of numbers. -/
def IsAt (w : World) (v : Value) (l : List Int) : Prop :=
  ∃ A c, v = .slice A l.length c ∧ l.length ≤ 9223372036854775807 ∧ ∀ k x, l[k]? = some x → ∃ g o, A = some ⟨g, o, none⟩ ∧ w.cell? ⟨g, o + k, none⟩ = some (.int .i64 x)
/-- A list of bools. -/
def TsAt (w : World) (v : Value) (l : List Bool) : Prop :=
  ∃ A c, v = .slice A l.length c ∧ l.length ≤ 9223372036854775807 ∧ ∀ k x, l[k]? = some x → ∃ g o, A = some ⟨g, o, none⟩ ∧ w.cell? ⟨g, o + k, none⟩ = some (.bool x)
/-- A list of lists of numbers. -/
def IssAt (w : World) (v : Value) (l : List (List Int)) : Prop :=
  ∃ A c, v = .slice A l.length c ∧ l.length ≤ 9223372036854775807 ∧ ∀ k x, l[k]? = some x → ∃ g o h, A = some ⟨g, o, none⟩ ∧ w.cell? ⟨g, o + k, none⟩ = some h ∧ IsAt w h x

theorem cell_below {w w1 : World} (h : Below w.heap.size w w1) {a : Addr} {v : Value} (hc : w.cell? a = some v) : w1.cell? a = some v := (h.cell (World.block_lt_of_cell? w a hc)).trans hc
theorem bcell {W w1 : World} (hb : Below W.heap.size W w1) : (∀ b o, b < W.heap.size → w1.cell? ⟨b, o, none⟩ = W.cell? ⟨b, o, none⟩) ∧ (∀ b o, b < W.heap.size → w1.frozen? ⟨b, o, none⟩ = W.frozen? ⟨b, o, none⟩) :=
  ⟨fun b o h => hb.cell (p := ⟨b, o, none⟩) h, fun b o h => hb.frozen (p := ⟨b, o, none⟩) h⟩
theorem EsAt.below {w w1 : World} {v : Value} {l : List (Int × Int)} (h : EsAt w v l) (hb : Below w.heap.size w w1) : EsAt w1 v l := by
  obtain ⟨A, c, hv, hl, hx⟩ := h
  exact ⟨A, c, hv, hl, fun k x hk => let ⟨g, o, hA, h1, h2⟩ := hx k x hk; ⟨g, o, hA, cell_below hb h1, cell_below hb h2⟩⟩
theorem IsAt.below {w w1 : World} {v : Value} {l : List Int} (h : IsAt w v l) (hb : Below w.heap.size w w1) : IsAt w1 v l := by
  obtain ⟨A, c, hv, hl, hx⟩ := h
  exact ⟨A, c, hv, hl, fun k x hk => let ⟨g, o, hA, h1⟩ := hx k x hk; ⟨g, o, hA, cell_below hb h1⟩⟩
theorem TsAt.below {w w1 : World} {v : Value} {l : List Bool} (h : TsAt w v l) (hb : Below w.heap.size w w1) : TsAt w1 v l := by
  obtain ⟨A, c, hv, hl, hx⟩ := h
  exact ⟨A, c, hv, hl, fun k x hk => let ⟨g, o, hA, h1⟩ := hx k x hk; ⟨g, o, hA, cell_below hb h1⟩⟩
theorem IssAt.below {w w1 : World} {v : Value} {l : List (List Int)} (h : IssAt w v l) (hb : Below w.heap.size w w1) : IssAt w1 v l := by
  obtain ⟨A, c, hv, hl, hx⟩ := h
  exact ⟨A, c, hv, hl, fun k x hk => let ⟨g, o, h0, hA, h1, h2⟩ := hx k x hk; ⟨g, o, h0, hA, cell_below hb h1, h2.below hb⟩⟩
theorem EsAt.get {w : World} {A : Option Addr} {n c : Nat} {l : List (Int × Int)} (h : EsAt w (.slice A n c) l) {i : Nat} {x : Int × Int} (hi : l[i]? = some x) : ∃ g o, A = some ⟨g, o, none⟩ ∧ g < w.heap.size ∧ w.cell? ⟨g, o + i * 2, none⟩ = some (.int .i64 x.1) ∧ w.cell? ⟨g, o + i * 2 + 1, none⟩ = some (.int .i64 x.2) := by
  obtain ⟨A', c', hv, _, hx⟩ := h
  injection hv with h1 _ _
  subst h1
  obtain ⟨g, o, hA, h1, h2⟩ := hx i x hi
  exact ⟨g, o, hA, World.block_lt_of_cell? w _ h1, h1, h2⟩
theorem IsAt.get {w : World} {A : Option Addr} {n c : Nat} {l : List Int} (h : IsAt w (.slice A n c) l) {i : Nat} {x : Int} (hi : l[i]? = some x) : ∃ g o, A = some ⟨g, o, none⟩ ∧ g < w.heap.size ∧ w.cell? ⟨g, o + i, none⟩ = some (.int .i64 x) := by
  obtain ⟨A', c', hv, _, hx⟩ := h
  injection hv with h1 _ _
  subst h1
  obtain ⟨g, o, hA, h1⟩ := hx i x hi
  exact ⟨g, o, hA, World.block_lt_of_cell? w _ h1, h1⟩
theorem TsAt.get {w : World} {A : Option Addr} {n c : Nat} {l : List Bool} (h : TsAt w (.slice A n c) l) {i : Nat} {x : Bool} (hi : l[i]? = some x) : ∃ g o, A = some ⟨g, o, none⟩ ∧ g < w.heap.size ∧ w.cell? ⟨g, o + i, none⟩ = some (.bool x) := by
  obtain ⟨A', c', hv, _, hx⟩ := h
  injection hv with h1 _ _
  subst h1
  obtain ⟨g, o, hA, h1⟩ := hx i x hi
  exact ⟨g, o, hA, World.block_lt_of_cell? w _ h1, h1⟩
theorem IssAt.get {w : World} {A : Option Addr} {n c : Nat} {l : List (List Int)} (h : IssAt w (.slice A n c) l) {i : Nat} {x : List Int} (hi : l[i]? = some x) : ∃ g o Ai ci, A = some ⟨g, o, none⟩ ∧ g < w.heap.size ∧ w.cell? ⟨g, o + i, none⟩ = some (.slice Ai x.length ci) ∧ IsAt w (.slice Ai x.length ci) x := by
  obtain ⟨A', c', hv, _, hx⟩ := h
  injection hv with h1 _ _
  subst h1
  obtain ⟨g, o, h0, hA, h1, h2⟩ := hx i x hi
  have h2' := h2
  obtain ⟨Ai, ci, rfl, _⟩ := h2'
  exact ⟨g, o, Ai, ci, hA, World.block_lt_of_cell? w _ h1, h1, h2⟩
theorem IsAt.len {w : World} {A : Option Addr} {n c : Nat} {l : List Int} (h : IsAt w (.slice A n c) l) : n = l.length := by
  obtain ⟨A', c', hv, _⟩ := h
  injection hv
theorem is_nil (w : World) : IsAt w (.slice none 0 0) [] := ⟨none, 0, rfl, by decide, fun i b h => by simp at h⟩
theorem es_nil (w : World) : EsAt w (.slice none 0 0) [] := ⟨none, 0, rfl, by decide, fun i b h => by simp at h⟩

theorem ret_bool {a b : Bool} (h : a = b) : Ending.returned (.bool a) = .returned (.bool b) := by rw [h]
theorem ret_int {k : IntKind} {a b : Int} (h : a = b) : Ending.returned (.int k a) = .returned (.int k b) := by rw [h]
theorem take_more {α : Type} {l : List α} {p : α → Prop} {k : Nat} {y : α} (hy : l[k]? = some y) (h : ∀ x ∈ l.take k, p x) (hp : p y) : ∀ x ∈ l.take (k + 1), p x := by
  obtain ⟨hk, rfl⟩ := List.getElem?_eq_some_iff.1 hy
  intro x hx
  rw [List.take_succ_eq_append_getElem hk, List.mem_append] at hx
  rcases hx with hx | hx
  · exact h x hx
  · simp at hx; subst hx; exact hp
theorem take_all {α : Type} {l : List α} {p : α → Prop} (h : ∀ x ∈ l.take l.length, p x) : ∀ x ∈ l, p x := by rwa [List.take_length] at h

/-! ### A region that draws its order, reads, and makes calls that leave all that was there -/
open Classical in
noncomputable def upon (W : World) (B : Nat) (x : World) : World := if Below B W x then x else W
theorem upon_below (W : World) (B : Nat) (x : World) : Below B W (upon W B x) := by
  unfold upon
  split
  · assumption
  · exact Below.refl _ _
theorem upon_of {W : World} {B : Nat} {x : World} (h : Below B W x) : x = upon W B x := by
  unfold upon
  rw [if_pos h]
theorem upon_cell (W : World) (B : Nat) (x : World) (b o : Nat) (h : b < B) : (upon W B x).cell? ⟨b, o, none⟩ = W.cell? ⟨b, o, none⟩ := (upon_below W B x).cell (p := ⟨b, o, none⟩) h
theorem wp_region_upon {P : Program} {id : Nat} {Q : Exit → Act → World → Prop} {a : Act} {w : World} {l : List Oper} (hm : P.follows .mixedOrders = true) (hB : Region.lexB .any l.toArray = true)
    (h : wpQuiet P l.toArray (fun w' => ∃ x, w' = upon w w.heap.size x) (fun a' => ∀ w', Below w.heap.size w w' → Q .normal a' w') l a) : (Code.region id l.toArray true).wp P Q a w := by
  refine wp_region_quiet (C := fun w' => ∃ x, w' = upon w w.heap.size x) hm hB ⟨_, upon_of (Below.drew (Below.refl _ _))⟩ ?_
  have e : (fun a' => ∀ w', Below w.heap.size w w' → Q .normal a' w') = fun a' => ∀ w', (∃ x, w' = upon w w.heap.size x) → Q .normal a' w' := by
    funext a'
    refine propext ⟨fun h w' ⟨x, hx⟩ => h w' (hx ▸ upon_below _ _ _), fun h w' hb => h w' ⟨w', upon_of hb⟩⟩
  rw [← e]
  simpa using h
theorem wp_world {P : Program} {c : Code} {Q : Exit → Act → World → Prop} {a : Act} {w : World} (R : World → Prop) (hR : R w) (h : ∀ W, R W → c.wp P Q a W) : c.wp P Q a w := h w hR

/-! ### min and max of two -/
def mn (a b : Int) : Int := if b < a then b else a
def mx (a b : Int) : Int := if a < b then b else a
theorem run_min2 (w : World) (ts : Array TypeId) (t : TypeId) (a b : Int) : Sem.run Try.prog (Builtin.min_ ts t #[.int .i64 a, .int .i64 b]) w = .ok (.int .i64 (mn a b)) w := rfl
theorem run_max2 (w : World) (ts : Array TypeId) (t : TypeId) (a b : Int) : Sem.run Try.prog (Builtin.max_ ts t #[.int .i64 a, .int .i64 b]) w = .ok (.int .i64 (mx a b)) w := rfl
theorem mn_neg {a b : Int} : mn a b < 0 ↔ a < 0 ∨ b < 0 := by unfold mn; split <;> omega
theorem mx_ge {a b n : Int} : n ≤ mx a b ↔ n ≤ a ∨ n ≤ b := by unfold mx; split <;> omega
theorem mn_eq (a b : Int) : mn a b = min a b := by unfold mn; omega
theorem mx_eq (a b : Int) : mx a b = max a b := by unfold mx; omega

/-! ### check -/
/-- Does an arrow lead out of the points? -/
def oddB (n : Int) (x : Int × Int) : Bool := decide (x.1 < 0 ∨ x.2 < 0) || decide (n ≤ x.1 ∨ n ≤ x.2)
def chkI (n : Int) (l : List (Int × Int)) : Int := if 1000 < n ∨ 10000 < l.length then 4 else if n < 0 ∨ l.any (oddB n) = true then 2 else 0


attribute [local go_sem ↓] run_min2 run_max2
theorem odd_any (n : Int) (x : Int × Int) (gp : Nat) (w : World) (hg : gp < w.heap.size) (hp : w.cell? ⟨gp, 0, none⟩ = some (.int .i64 n)) :
    Calls Try.prog 30 #[.agg #[.int .i64 x.1, .int .i64 x.2], .pointer (some ⟨gp, 0, none⟩)] w fun e w' => e = .returned (.bool (oddB n x)) ∧ Below w.heap.size w w' := by
  by_cases h1 : x.1 < 0 ∨ x.2 < 0
  · have e : oddB n x = true := by simp [oddB, h1]
    have d1 : decide (mn x.1 x.2 < 0) = true := by rw [decide_eq_true_eq, mn_neg]; exact h1
    rw [e]
    clear h1 e
    go_enter Try.func30, Try.ntmps30
    go_wp2
    go_ret
    exact ⟨rfl, (by repeat (first | exact Below.refl _ _ | (with_reducible refine Below.drew ?_) | refine Below.setCell ?_ (by simp) _ | refine Below.alloc ?_ (by first | omega | (simp; done) | (simp; omega)) _))⟩
  · have d1 : decide (mn x.1 x.2 < 0) = false := by rw [decide_eq_false_iff_not, mn_neg]; exact h1
    by_cases h2 : n ≤ x.1 ∨ n ≤ x.2
    · have e : oddB n x = true := by simp [oddB, h2]
      have d2 : decide (n ≤ mx x.1 x.2) = true := by rw [decide_eq_true_eq, mx_ge]; exact h2
      rw [e]
      clear h1 h2 e
      go_enter Try.func30, Try.ntmps30
      go_wp2
      go_ret
      exact ⟨rfl, (by repeat (first | exact Below.refl _ _ | (with_reducible refine Below.drew ?_) | refine Below.setCell ?_ (by simp) _ | refine Below.alloc ?_ (by first | omega | (simp; done) | (simp; omega)) _))⟩
    · have e : oddB n x = false := by simp [oddB, h1, h2]
      have d2 : decide (n ≤ mx x.1 x.2) = false := by rw [decide_eq_false_iff_not, mx_ge]; exact h2
      rw [e]
      clear h1 h2 e
      go_enter Try.func30, Try.ntmps30
      go_wp2
      go_ret
      exact ⟨rfl, (by repeat (first | exact Below.refl _ _ | (with_reducible refine Below.drew ?_) | refine Below.setCell ?_ (by simp) _ | refine Below.alloc ?_ (by first | omega | (simp; done) | (simp; omega)) _))⟩
theorem odd_at {n : Int} {x : Int × Int} {b : Bool} (gp : Nat) (w : World) (hg : gp < w.heap.size) (hp : w.cell? ⟨gp, 0, none⟩ = some (.int .i64 n)) (h : oddB n x = b) :
    Calls Try.prog 30 #[.agg #[.int .i64 x.1, .int .i64 x.2], .pointer (some ⟨gp, 0, none⟩)] w fun e w' => e = .returned (.bool b) ∧ Below w.heap.size w w' := by
  subst h
  exact odd_any n x gp w hg hp

def idxF {α : Type} (p : α → Bool) (l : List α) : Int := ((l.findIdx? p).map fun n : Nat => (n : Int)).getD (-1)
theorem idxF_none {α : Type} {p : α → Bool} {l : List α} (h : ∀ x ∈ l, p x = false) : idxF p l = -1 := by
  have : l.findIdx? p = none := by rw [List.findIdx?_eq_none_iff]; exact h
  simp [idxF, this]
theorem idxF_some {α : Type} {p : α → Bool} {l : List α} {k : Nat} {y : α} (hy : l[k]? = some y) (h : ∀ x ∈ l.take k, p x = false) (hp : p y = true) : idxF p l = k := by
  obtain ⟨hk, rfl⟩ := List.getElem?_eq_some_iff.1 hy
  have : l.findIdx? p = some k := by
    rw [List.findIdx?_eq_some_iff_getElem]
    refine ⟨hk, hp, fun j hj => ?_⟩
    have := h l[j] (by rw [List.mem_take_iff_getElem]; exact ⟨j, by omega, rfl⟩)
    simp [this]
  simp [idxF, this]
theorem any_idxF {α : Type} (p : α → Bool) (l : List α) : decide (0 ≤ idxF p l) = l.any p := by
  cases h : l.findIdx? p with
  | none =>
    have h' := h
    rw [List.findIdx?_eq_none_iff] at h'
    have e : l.any p = false := by rw [List.any_eq_false]; intro x hx; simp [h' x hx]
    simp [idxF, h, e]
  | some k =>
    rw [List.findIdx?_eq_some_iff_getElem] at h
    obtain ⟨hk, hp, hh⟩ := h
    have e : l.any p = true := by rw [List.any_eq_true]; exact ⟨l[k], List.getElem_mem hk, hp⟩
    have := idxF_some (List.getElem?_eq_getElem hk) (fun x hx => by
      rw [List.mem_take_iff_getElem] at hx
      obtain ⟨j, hj, rfl⟩ := hx
      simpa using hh j (by omega)) hp
    rw [this, e]
    simp

set_option maxHeartbeats 1000000 in
theorem index_chk (p : Int × Int → Bool) {l : List (Int × Int)} {v : Value} (c0 : Value) (w : World) (hl : EsAt w v l)
    (H : ∀ (W : World) (x : Int × Int), x ∈ l → Below w.heap.size w W → Calls Try.prog 30 #[.agg #[.int .i64 x.1, .int .i64 x.2], c0] W fun e w' => e = .returned (.bool (p x)) ∧ Below W.heap.size W w') :
    Calls Try.prog 34 #[v, .func (Fn.func 30) #[] #[c0]] w fun e w' => e = .returned (.int .i64 (idxF p l)) ∧ Below w.heap.size w w' := by
  have hl' := hl
  obtain ⟨A, c, rfl, hmx, hq⟩ := hl'
  have HL := Lib.hid hl; clear hl
  clear hq
  have HH := Lib.hid H; clear H
  go_enter Try.func34, Try.ntmps34
  go_wp2_with fail
  go_loopw [5, 8] (fun _ i wr => ∃ k : Nat, k ≤ l.length ∧ i = .int .i64 k ∧ Below w.heap.size w wr ∧ Hid (∀ x ∈ l.take k, p x = false)) (fun _ i _ => l.length - (intOf i).toNat)
  case atStart => exact ⟨0, Nat.zero_le _, rfl, Below.refl _ _, by unfold Hid; simp⟩
  case round =>
    obtain ⟨k, hk, rfl, hb, N⟩ := hrel
    by_cases hlt : k < l.length
    · have HLT := Lib.hid hlt
      obtain ⟨x, hx⟩ : ∃ x, l[k]? = some x := ⟨_, List.getElem?_eq_getElem hlt⟩
      have HX := Lib.hid hx
      obtain ⟨g, og, rfl, hg, q0, q1⟩ := HL.out.get hx
      have hgr : g < wr.heap.size := Nat.lt_of_lt_of_le hg hb.size
      have r0 := cell_below hb q0
      have r1 := cell_below hb q1
      have HB := Lib.hid hb
      clear q0 q1 hx hb
      go_wp2_with fail
      refine (HH.out wr x (List.mem_of_getElem? HX.out) HB.out).mono ?_
      rintro e w1 ⟨rfl, h1⟩
      have H1 := Lib.hid (HB.out.trans (h1.mono HB.out.size))
      clear h1 r0 r1
      cases hp : p x
      · have HP := Lib.hid hp; clear hp
        go_wp2
        go_roundw
        case rel => exact ⟨k + 1, HLT.out, by go_num, H1.out, take_more HX.out N.out HP.out⟩
        case measure => have := HLT.out; simp [intOf]; omega
      · have HP := Lib.hid hp; clear hp
        go_wp2
        go_ret
        exact ⟨by rw [idxF_some HX.out N.out HP.out]; rfl, H1.out⟩
    · have : k = l.length := by omega
      subst this
      go_wp2
      go_ret
      refine ⟨?_, hb⟩
      rw [idxF_none (take_all N.out)]
      rfl

theorem contains_chk (p : Int × Int → Bool) {l : List (Int × Int)} {v : Value} (c0 : Value) (w : World) (hl : EsAt w v l)
    (H : ∀ (W : World) (x : Int × Int), x ∈ l → Below w.heap.size w W → Calls Try.prog 30 #[.agg #[.int .i64 x.1, .int .i64 x.2], c0] W fun e w' => e = .returned (.bool (p x)) ∧ Below W.heap.size W w') :
    Calls Try.prog 23 #[v, .func (Fn.func 30) #[] #[c0]] w fun e w' => e = .returned (.bool (l.any p)) ∧ Below w.heap.size w w' := by
  have HL := Lib.hid hl; clear hl
  have HH := Lib.hid H; clear H
  go_enter Try.func23, Try.ntmps23
  go_wp2_with fail
  (with_reducible refine (index_chk p _ _ HL.out HH.out).mono ?_); rintro e w1 ⟨rfl, h1⟩
  go_wp2
  go_ret
  exact ⟨ret_bool (any_idxF p l), h1⟩

set_option maxHeartbeats 1000000 in
theorem index_tie (p : Int × Int → Bool) {l : List (Int × Int)} {v : Value} (c0 : Value) (c1 : Value) (w : World) (hl : EsAt w v l)
    (H : ∀ (W : World) (x : Int × Int), x ∈ l → Below w.heap.size w W → Calls Try.prog 24 #[.agg #[.int .i64 x.1, .int .i64 x.2], c0, c1] W fun e w' => e = .returned (.bool (p x)) ∧ Below W.heap.size W w') :
    Calls Try.prog 34 #[v, .func (Fn.func 24) #[] #[c0, c1]] w fun e w' => e = .returned (.int .i64 (idxF p l)) ∧ Below w.heap.size w w' := by
  have hl' := hl
  obtain ⟨A, c, rfl, hmx, hq⟩ := hl'
  have HL := Lib.hid hl; clear hl
  clear hq
  have HH := Lib.hid H; clear H
  go_enter Try.func34, Try.ntmps34
  go_wp2_with fail
  go_loopw [5, 8] (fun _ i wr => ∃ k : Nat, k ≤ l.length ∧ i = .int .i64 k ∧ Below w.heap.size w wr ∧ Hid (∀ x ∈ l.take k, p x = false)) (fun _ i _ => l.length - (intOf i).toNat)
  case atStart => exact ⟨0, Nat.zero_le _, rfl, Below.refl _ _, by unfold Hid; simp⟩
  case round =>
    obtain ⟨k, hk, rfl, hb, N⟩ := hrel
    by_cases hlt : k < l.length
    · have HLT := Lib.hid hlt
      obtain ⟨x, hx⟩ : ∃ x, l[k]? = some x := ⟨_, List.getElem?_eq_getElem hlt⟩
      have HX := Lib.hid hx
      obtain ⟨g, og, rfl, hg, q0, q1⟩ := HL.out.get hx
      have hgr : g < wr.heap.size := Nat.lt_of_lt_of_le hg hb.size
      have r0 := cell_below hb q0
      have r1 := cell_below hb q1
      have HB := Lib.hid hb
      clear q0 q1 hx hb
      go_wp2_with fail
      refine (HH.out wr x (List.mem_of_getElem? HX.out) HB.out).mono ?_
      rintro e w1 ⟨rfl, h1⟩
      have H1 := Lib.hid (HB.out.trans (h1.mono HB.out.size))
      clear h1 r0 r1
      cases hp : p x
      · have HP := Lib.hid hp; clear hp
        go_wp2
        go_roundw
        case rel => exact ⟨k + 1, HLT.out, by go_num, H1.out, take_more HX.out N.out HP.out⟩
        case measure => have := HLT.out; simp [intOf]; omega
      · have HP := Lib.hid hp; clear hp
        go_wp2
        go_ret
        exact ⟨by rw [idxF_some HX.out N.out HP.out]; rfl, H1.out⟩
    · have : k = l.length := by omega
      subst this
      go_wp2
      go_ret
      refine ⟨?_, hb⟩
      rw [idxF_none (take_all N.out)]
      rfl

theorem contains_tie (p : Int × Int → Bool) {l : List (Int × Int)} {v : Value} (c0 : Value) (c1 : Value) (w : World) (hl : EsAt w v l)
    (H : ∀ (W : World) (x : Int × Int), x ∈ l → Below w.heap.size w W → Calls Try.prog 24 #[.agg #[.int .i64 x.1, .int .i64 x.2], c0, c1] W fun e w' => e = .returned (.bool (p x)) ∧ Below W.heap.size W w') :
    Calls Try.prog 23 #[v, .func (Fn.func 24) #[] #[c0, c1]] w fun e w' => e = .returned (.bool (l.any p)) ∧ Below w.heap.size w w' := by
  have HL := Lib.hid hl; clear hl
  have HH := Lib.hid H; clear H
  go_enter Try.func23, Try.ntmps23
  go_wp2_with fail
  (with_reducible refine (index_tie p _ _ _ HL.out HH.out).mono ?_); rintro e w1 ⟨rfl, h1⟩
  go_wp2
  go_ret
  exact ⟨ret_bool (any_idxF p l), h1⟩

set_option maxHeartbeats 1000000 in
theorem check_any {l : List (Int × Int)} {v : Value} (n : Int) (w : World) (hl : EsAt w v l) :
    Calls Try.prog 19 #[.int .i64 n, v] w fun e w' => e = .returned (.int .i64 (chkI n l)) ∧ Below w.heap.size w w' := by
  have hl' := hl
  obtain ⟨A, c, rfl, hmx, hq⟩ := hl'
  have HL := Lib.hid hl; clear hl
  clear hq
  by_cases h1 : 1000 < n
  · have e : chkI n l = 4 := by unfold chkI; rw [if_pos (.inl h1)]
    rw [e]
    clear e
    go_enter Try.func19, Try.ntmps19
    go_wp2
    go_ret
    exact ⟨rfl, (by repeat (first | exact Below.refl _ _ | (with_reducible refine Below.drew ?_) | refine Below.setCell ?_ (by simp) _ | refine Below.alloc ?_ (by first | omega | (simp; done) | (simp; omega)) _))⟩
  by_cases h2 : 10000 < l.length
  · have e : chkI n l = 4 := by unfold chkI; rw [if_pos (.inr h2)]
    rw [e]
    clear e
    go_enter Try.func19, Try.ntmps19
    go_wp2
    go_ret
    exact ⟨rfl, (by repeat (first | exact Below.refl _ _ | (with_reducible refine Below.drew ?_) | refine Below.setCell ?_ (by simp) _ | refine Below.alloc ?_ (by first | omega | (simp; done) | (simp; omega)) _))⟩
  by_cases h3 : n < 0
  · have e : chkI n l = 2 := by unfold chkI; rw [if_neg (by omega), if_pos (.inl h3)]
    rw [e]
    clear e
    go_enter Try.func19, Try.ntmps19
    go_wp2
    go_ret
    exact ⟨rfl, (by repeat (first | exact Below.refl _ _ | (with_reducible refine Below.drew ?_) | refine Below.setCell ?_ (by simp) _ | refine Below.alloc ?_ (by first | omega | (simp; done) | (simp; omega)) _))⟩
  cases h4 : l.any (oddB n)
  all_goals
    have H4 := Lib.hid h4
  · have e : chkI n l = 0 := by unfold chkI; rw [if_neg (by omega), if_neg (by rw [h4]; simp; omega)]
    rw [e]
    clear e h4
    go_enter Try.func19, Try.ntmps19
    go_wp2_with fail
    refine (contains_chk (oddB n) (.pointer (some ⟨w.heap.size, 0, none⟩)) _ (HL.out.below ((Below.refl _ _).alloc (Nat.le_refl _) _)) (fun W x hx hb => odd_any n x w.heap.size W (Nat.lt_of_lt_of_le (by simp) hb.size) (cell_below hb (by simp)))).mono ?_
    rintro e w1 ⟨rfl, h1⟩
    have H1 : Hid (Below w.heap.size w w1) := ((Below.refl _ _).alloc (Nat.le_refl _) _).trans (h1.mono (by simp))
    clear h1
    rw [H4.out]
    go_wp2
    go_ret
    exact ⟨rfl, H1.out⟩
  · have e : chkI n l = 2 := by unfold chkI; rw [if_neg (by omega), if_pos (.inr h4)]
    rw [e]
    clear e h4
    go_enter Try.func19, Try.ntmps19
    go_wp2_with fail
    refine (contains_chk (oddB n) (.pointer (some ⟨w.heap.size, 0, none⟩)) _ (HL.out.below ((Below.refl _ _).alloc (Nat.le_refl _) _)) (fun W x hx hb => odd_any n x w.heap.size W (Nat.lt_of_lt_of_le (by simp) hb.size) (cell_below hb (by simp)))).mono ?_
    rintro e w1 ⟨rfl, h1⟩
    have H1 : Hid (Below w.heap.size w w1) := ((Below.refl _ _).alloc (Nat.le_refl _) _).trans (h1.mono (by simp))
    clear h1
    rw [H4.out]
    go_wp2
    go_ret
    exact ⟨rfl, H1.out⟩

def greatB (n : Int) (l : List (Int × Int)) : Bool := decide (60 < n ∧ n ≤ 1000) || decide (200 < l.length)
theorem great_any {l : List (Int × Int)} {v : Value} (n : Int) (w : World) (hl : EsAt w v l) : Calls Try.prog 9 #[.int .i64 n, v] w fun e w' => e = .returned (.bool (greatB n l)) ∧ w = w' := by
  obtain ⟨A, c, rfl, hmx, hq⟩ := hl
  clear hq
  unfold greatB
  by_cases h1 : 60 < n
  · by_cases h2 : n ≤ 1000
    · rw [decide_eq_true ⟨h1, h2⟩, Bool.true_or]
      go_enter Try.func9, Try.ntmps9
      go_wp2
      go_ret
      exact ⟨rfl, rfl⟩
    · rw [decide_eq_false (by omega), Bool.false_or]
      go_enter Try.func9, Try.ntmps9
      go_wp2
      go_ret
      exact ⟨ret_bool (by rw [Bool.eq_iff_iff]; simp; omega), rfl⟩
  · rw [decide_eq_false (by omega), Bool.false_or]
    go_enter Try.func9, Try.ntmps9
    go_wp2
    go_ret
    exact ⟨ret_bool (by rw [Bool.eq_iff_iff]; simp; omega), rfl⟩

end Go.Proofs.Ytkmbjpgpkgeiaaa

/- The contract of calc.First and of New: what it answers is the memory with one block more, in blocks of its own; or nothing, and the error. -/
import Derived.Test.YtmelamlngjflkaaRows
import Derived.WalkKit
import Derived.ProofKit
import Derived.OpenShut
import Derived.Below
import Derived.Outline
import Derived.LoopTactic
import Derived.Test.YtmelamlngjflkaaRep
import Derived.Test.YtmelamlngjflkaaU
import Derived.Lib.Hide
import Derived.WalkLawsBesides
import Derived.RegionTactic
import Derived.BigRegion
import Derived.Deep.RegionLaw
import Derived.Deep.AppendLies
import Derived.Test.YtmelamlngjflkaaJ
import Derived.Test.YtmelamlngjflkaaM
namespace Go.Proofs.Ytmelamlngjflkaa
open Go.ChangeShapes Go.WideShapes Go.ChangeAt Go.RowKit
set_option linter.unusedVariables false

theorem first_1 (w : World) : Calls Try.prog 42 #[.int .u8 1] w fun e w' => e = .returned (.tuple #[.agg #[.int .u8 1, .int .i64 0, .int .i64 0, .int .i64 0], .int .i64 0]) ∧ Below w.heap.size w w' := by
  go_enter Try.func42, Try.ntmps42
  go_wp2
  exact bodyPost_ret (v := .tuple #[.agg #[.int .u8 1, .int .i64 0, .int .i64 0, .int .i64 0], .int .i64 0]) (by simp [results, Try.results42, go_sem]) rfl ⟨rfl, (Below.refl _ _).alloc (Nat.le_refl _) _⟩

theorem first_2 (w : World) : Calls Try.prog 42 #[.int .u8 2] w fun e w' => e = .returned (.tuple #[.agg #[.int .u8 2, .int .i64 0, .int .i64 0, .int .i64 0], .int .i64 0]) ∧ Below w.heap.size w w' := by
  go_enter Try.func42, Try.ntmps42
  go_wp2
  exact bodyPost_ret (v := .tuple #[.agg #[.int .u8 2, .int .i64 0, .int .i64 0, .int .i64 0], .int .i64 0]) (by simp [results, Try.results42, go_sem]) rfl ⟨rfl, (Below.refl _ _).alloc (Nat.le_refl _) _⟩

theorem first_3 (w : World) : Calls Try.prog 42 #[.int .u8 3] w fun e w' => e = .returned (.tuple #[.agg #[.int .u8 3, .int .i64 0, .int .i64 0, .int .i64 0], .int .i64 0]) ∧ Below w.heap.size w w' := by
  go_enter Try.func42, Try.ntmps42
  go_wp2
  exact bodyPost_ret (v := .tuple #[.agg #[.int .u8 3, .int .i64 0, .int .i64 0, .int .i64 0], .int .i64 0]) (by simp [results, Try.results42, go_sem]) rfl ⟨rfl, (Below.refl _ _).alloc (Nat.le_refl _) _⟩

theorem first_no (k : Int) (h1 : ¬ k = 1) (h2 : ¬ k = 2) (h3 : ¬ k = 3) (hk : 0 ≤ k) (w : World) : Calls Try.prog 42 #[.int .u8 k] w fun e w' => e = .returned (.tuple #[.agg #[.int .u8 0, .int .i64 0, .int .i64 0, .int .i64 0], .int .i64 2]) ∧ Below w.heap.size w w' := by
  have g : k < 1 ∨ 3 < k := by omega
  rcases g with g | g
  all_goals
    have e1 : (k == 1) = false := by simp; omega
    have e2 : (k == 2) = false := by simp; omega
    have e3 : (k == 3) = false := by simp; omega
    go_enter Try.func42, Try.ntmps42
    go_wp2
    exact bodyPost_ret (v := .tuple #[.agg #[.int .u8 0, .int .i64 0, .int .i64 0, .int .i64 0], .int .i64 2]) (by simp [results, Try.results42, go_sem]) rfl ⟨rfl, (Below.refl _ _).alloc (Nat.le_refl _) _⟩

def kindB (k : Int) : Bool := decide (1 ≤ k ∧ k ≤ 3)
theorem first_yes (k : Int) (h : kindB k = true) (w : World) : Calls Try.prog 42 #[.int .u8 k] w fun e w' => e = .returned (.tuple #[.agg #[.int .u8 k, .int .i64 0, .int .i64 0, .int .i64 0], .int .i64 0]) ∧ Below w.heap.size w w' := by
  have h' : 1 ≤ k ∧ k ≤ 3 := by simpa [kindB] using h
  obtain rfl | rfl | rfl : k = 1 ∨ k = 2 ∨ k = 3 := by omega
  · exact first_1 w
  · exact first_2 w
  · exact first_3 w
theorem first_not (k : Int) (h0 : 0 ≤ k) (h : kindB k = false) (w : World) : Calls Try.prog 42 #[.int .u8 k] w fun e w' => e = .returned (.tuple #[.agg #[.int .u8 0, .int .i64 0, .int .i64 0, .int .i64 0], .int .i64 2]) ∧ Below w.heap.size w w' := by
  have h' : ¬ (1 ≤ k ∧ k ≤ 3) := by simpa [kindB] using h
  exact first_no k (by omega) (by omega) (by omega) h0 w

/-- A list of kinds, as it comes in. -/
def KsAt (w : World) (v : Value) (l : List Int) : Prop :=
  ∃ A c, v = .slice A l.length c ∧ l.length ≤ 9223372036854775807 ∧ (∀ k ∈ l, 0 ≤ k) ∧ ∀ i k, l[i]? = some k → ∃ g o, A = some ⟨g, o, none⟩ ∧ w.cell? ⟨g, o + i, none⟩ = some (.int .u8 k)
theorem KsAt.get {w : World} {A : Option Addr} {n c : Nat} {l : List Int} (h : KsAt w (.slice A n c) l) {i : Nat} {b : Int} (hi : l[i]? = some b) : ∃ g o, A = some ⟨g, o, none⟩ ∧ g < w.heap.size ∧ 0 ≤ b ∧ w.cell? ⟨g, o + i, none⟩ = some (.int .u8 b) := by
  obtain ⟨A', c', hv, _, h0, hx⟩ := h
  injection hv with h1 _ _
  subst h1
  obtain ⟨g, o, hA, hb⟩ := hx i b hi
  exact ⟨g, o, hA, World.block_lt_of_cell? w _ hb, h0 b (List.mem_of_getElem? hi), hb⟩
theorem KsAt.below {w w1 : World} (hb : Below w.heap.size w w1) {v : Value} {l : List Int} (h : KsAt w v l) : KsAt w1 v l := by
  obtain ⟨A, c, hv, hl, h0, hx⟩ := h
  exact ⟨A, c, hv, hl, h0, fun k x hk => let ⟨g, o, hA, h4⟩ := hx k x hk; ⟨g, o, hA, cell_below hb h4⟩⟩

def firstV (k : Int) : Val := ⟨k, 0, 0, 0⟩
/-- A memory that is answered, a pointer, and an error. -/
def NewP (r : List Blk) (p : Val) (i : Int) (w : World) (e : Ending) (w' : World) : Prop := ∃ v : Value, e = .returned (.tuple #[v, .agg #[.int .u8 p.k, .int .i64 p.n, .int .i64 p.b, .int .i64 p.o], .int .i64 i]) ∧ Lay w.heap.size w' v r ∧ Below w.heap.size w w'

theorem new_no {m : List Blk} {v lv : Value} (site ty d : Int) (w : World) (hm : BsAt w v m) (h : mayM m = false) : Calls Try.prog 16 #[v, .int .i64 site, .int .i64 ty, .int .i64 d, lv] w (NewP [] zero 8 w) := by
  have HM := Lib.hid hm; clear hm
  have HI := Lib.hid h; clear h
  go_enter Try.func16, Try.ntmps16
  go_wp2_with fail
  (with_reducible refine (check_no _ (HM.out.below ((Below.refl _ _).alloc (Nat.le_refl _) _)) HI.out).mono ?_); rintro e w1 ⟨rfl, h1⟩
  have H1 : Hid (Below w.heap.size w w1) := ((Below.refl _ _).alloc (Nat.le_refl _) _).trans (h1.mono (by simp))
  have y0 : w1.cell? ⟨w.heap.size, 0, none⟩ = some (.int .u8 0) := cell_below h1 (by simp)
  have y1 : w1.cell? ⟨w.heap.size, 1, none⟩ = some (.int .i64 0) := cell_below h1 (by simp)
  have y2 : w1.cell? ⟨w.heap.size, 2, none⟩ = some (.int .i64 0) := cell_below h1 (by simp)
  have y3 : w1.cell? ⟨w.heap.size, 3, none⟩ = some (.int .i64 0) := cell_below h1 (by simp)
  have f0 : ∀ j, w1.frozen? ⟨w.heap.size, j, none⟩ = false := fun j => by have := (bcell h1).2 w.heap.size j (by simp); rw [this]; simp
  clear h1
  go_wp2_with fail
  go_region
  all_goals
    go_wp2
    refine bodyPost_ret (v := .tuple #[.slice none 0 0, .agg #[.int .u8 0, .int .i64 0, .int .i64 0, .int .i64 0], .int .i64 8]) (by simp [results, Try.results16, go_sem, *]) rfl ⟨_, rfl, Lay.no _ _, ?_⟩
    exact (((H1.out.drew.setCell (Nat.le_refl _) _).setCell (Nat.le_refl _) _).setCell (Nat.le_refl _) _).setCell (Nat.le_refl _) _

/-- The block under way stands in block gb, its header hv. -/
def Hold (w : World) (gb : Nat) (site ty d : Int) (hv : Value) : Prop :=
  w.cell? ⟨gb, 0, none⟩ = some (.int .i64 site) ∧ w.cell? ⟨gb, 1, none⟩ = some (.int .i64 ty) ∧ w.cell? ⟨gb, 2, none⟩ = some (.int .i64 d) ∧ w.cell? ⟨gb, 3, none⟩ = some (.bool true) ∧ w.cell? ⟨gb, 4, none⟩ = some hv ∧ ∀ j, w.frozen? ⟨gb, j, none⟩ = false
theorem Hold.below {w w1 : World} {gb : Nat} {site ty d : Int} {hv : Value} (h : Hold w gb site ty d hv) (hb : Below w.heap.size w w1) : Hold w1 gb site ty d hv := by
  obtain ⟨h0, h1, h2, h3, h4, h5⟩ := h
  exact ⟨cell_below hb h0, cell_below hb h1, cell_below hb h2, cell_below hb h3, cell_below hb h4, fun j => (hb.frozen (p := ⟨gb, j, none⟩) (show gb < w.heap.size from World.block_lt_of_cell? w ⟨gb, 0, none⟩ h0)).trans (h5 j)⟩
theorem Hold.grown {w w1 : World} {gb : Nat} {site ty d : Int} {hv : Value} {row : Option Nat} (h : Hold w gb site ty d hv) (hg : w.grownBy w1 row) (hne : some gb ≠ row) : Hold w1 gb site ty d hv := by
  obtain ⟨h0, h1, h2, h3, h4, h5⟩ := h
  have hlt := World.block_lt_of_cell? w _ h0
  exact ⟨hg.cell h0 hne, hg.cell h1 hne, hg.cell h2 hne, hg.cell h3 hne, hg.cell h4 hne, fun j => (World.frozen?_of_block (w := w) (hg.block gb hlt hne)).trans (h5 j)⟩
theorem Hold.set {w : World} {gb : Nat} {site ty d : Int} {hv : Value} (h : Hold w gb site ty d hv) (hv' : Value) : Hold (w.setCell ⟨gb, 4, none⟩ hv') gb site ty d hv' := by
  obtain ⟨h0, h1, h2, h3, h4, h5⟩ := h
  have e : ∀ q, q ≠ 4 → (w.setCell ⟨gb, 4, none⟩ hv').cell? ⟨gb, q, none⟩ = w.cell? ⟨gb, q, none⟩ := fun q hq => World.cell?_setCell_other _ _ _ _ (fun e => hq (by injection e with _ e; exact e.symm))
  exact ⟨(e 0 (by omega)).trans h0, (e 1 (by omega)).trans h1, (e 2 (by omega)).trans h2, (e 3 (by omega)).trans h3, World.cell?_setCell_same _ _ _ h4, fun j => (World.frozen?_setCell _ _ _ _).trans (h5 j)⟩
theorem own_base {w : World} {base : Nat} {e : TypeId} {size n : Nat} {v : Value} {xs : List Value} (h : w.ownsRow base e size v n xs) (k : Nat) (hk : v.ownBlock = some k) : base ≤ k := (h.lt k hk).1
theorem own_below {w w1 : World} {base : Nat} {e : TypeId} {size n : Nat} {v : Value} {xs : List Value} (h : w.ownsRow base e size v n xs) (hb : Below w.heap.size w w1) : w1.ownsRow base e size v n xs :=
  h.kept (grown_below hb none) (by cases v.ownBlock <;> simp)
theorem own_far {w : World} {base : Nat} {e : TypeId} {size n : Nat} {v : Value} {xs : List Value} (h : w.ownsRow base e size v n xs) {gb j : Nat} (hlt : gb < base) (u : Value) : (w.setCell ⟨gb, j, none⟩ u).ownsRow base e size v n xs :=
  ownsRow_setCell_below h hlt u
theorem own_slice {w : World} {base : Nat} {e : TypeId} {size n : Nat} {v : Value} {xs : List Value} (h : w.ownsRow base e size v n xs) : ∃ A c, v = .slice A n c := by
  rcases h.2 with ⟨hv, hn⟩ | ⟨g, cap, cur, hv, _⟩
  · exact ⟨none, 0, by rw [hv, hn]⟩
  · exact ⟨_, cap, hv⟩

def kindsB (l : List Int) : Bool := l.all kindB
def rowOf (l : List Int) (k : Nat) : List Value := ((l.take k).map firstV).flatMap valCells
theorem rowOf_succ {l : List Int} {k : Nat} (hk : k < l.length) : rowOf l (k + 1) = rowOf l k ++ valCells (firstV l[k]) := by
  unfold rowOf
  rw [List.take_succ_eq_append_getElem hk, List.map_append, List.flatMap_append]
  simp

def newI (m : List Blk) (site ty d : Int) (l : List Int) : Int :=
  if mayM m then (if kindsB l = false ∨ site < 0 ∨ ty < 0 ∨ d < 0 ∨ l.length < 1 ∨ 32 < l.length then 2 else if 4096 ≤ m.length then 9 else 0) else 8
def newB (site ty d : Int) (l : List Int) : Blk := ⟨site, ty, d, true, l.map firstV⟩
def newR (m : List Blk) (site ty d : Int) (l : List Int) : List Blk := if newI m site ty d l = 0 then m ++ [newB site ty d l] else []
def newV (m : List Blk) (site ty d : Int) (l : List Int) : Val := if newI m site ty d l = 0 then ⟨2, 0, m.length + 1, 0⟩ else zero

theorem new_is {m : List Blk} {site ty d : Int} {l : List Int} {r : List Blk} {p : Val} {i j : Int} (hr : newR m site ty d l = r) (hp : newV m site ty d l = p) (hi : newI m site ty d l = i) (hj : newI m site ty d l = j) (h0 : ¬ j = 0) : [] = r ∧ zero = p ∧ j = i := by
  rw [newR, hj, if_neg h0] at hr
  rw [newV, hj, if_neg h0] at hp
  exact ⟨hr, hp, hj.symm.trans hi⟩
theorem new_is0 {m : List Blk} {site ty d : Int} {l : List Int} {r : List Blk} {p : Val} {i : Int} (hr : newR m site ty d l = r) (hp : newV m site ty d l = p) (hi : newI m site ty d l = i) (hj : newI m site ty d l = 0) : m ++ [newB site ty d l] = r ∧ (⟨2, 0, m.length + 1, 0⟩ : Val) = p ∧ 0 = i := by
  rw [newR, hj, if_pos rfl] at hr
  rw [newV, hj, if_pos rfl] at hp
  exact ⟨hr, hp, hj.symm.trans hi⟩

def NewInv (gb : Nat) (W : World) (site ty d : Int) (l : List Int) (k : Nat) (wr : World) : Prop :=
  ∃ hv, Hold wr gb site ty d hv ∧ wr.ownsRow (gb + 1) 24 4 hv k (rowOf l k) ∧ Below gb W wr ∧ (∀ x ∈ l.take k, kindB x = true)

def min3 (a b c : Int) : Int := if (if b < a then b else a) > c then c else (if b < a then b else a)
theorem run_min3 (w : World) (ts : Array TypeId) (t : TypeId) (a b c : Int) : Sem.run Try.prog (Builtin.min_ ts t #[.int .i64 a, .int .i64 b, .int .i64 c]) w = .ok (.int .i64 (min3 a b c)) w := rfl
theorem min3_neg {a b c : Int} : min3 a b c < 0 ↔ a < 0 ∨ b < 0 ∨ c < 0 := by
  unfold min3
  split <;> split <;> omega
attribute [local go_sem ↓] run_min3

set_option maxRecDepth 100000 in
set_option maxHeartbeats 8000000 in
theorem new_loop {m : List Blk} {v lv : Value} {l : List Int} (site ty d : Int) (w : World) (hm : BsAt w v m) (hl : KsAt w lv l) (hlx : l.length ≤ 40) (h : mayM m = true) {r : List Blk} {p : Val} {i : Int} (hr : newR m site ty d l = r) (hp : newV m site ty d l = p) (hi : newI m site ty d l = i) : Calls Try.prog 16 #[v, .int .i64 site, .int .i64 ty, .int .i64 d, lv] w (NewP r p i w) := by
  have HR := Lib.hid hr; clear hr
  have HP := Lib.hid hp; clear hp
  have HE := Lib.hid hi; clear hi
  have HM := Lib.hid hm; clear hm
  have HI := Lib.hid h; clear h
  obtain ⟨i0, hi, hzz⟩ := Option.map_eq_some_iff.1 info24
  simp only [Prod.mk.injEq] at hzz
  obtain ⟨hz0, hz1, hz2⟩ := hzz
  have HI0 := Lib.hid hi; clear hi
  have HZ0 := Lib.hid hz0; clear hz0
  have HZ1 := Lib.hid hz1; clear hz1
  have HZ2 := Lib.hid hz2; clear hz2
  have hl' := hl
  obtain ⟨A, c, rfl, hlm, _, _⟩ := hl'
  have HL := Lib.hid hl; clear hl
  go_enter Try.func16, Try.ntmps16
  go_wp2_with fail
  (with_reducible refine (check_yes _ (HM.out.below ((Below.refl _ _).alloc (Nat.le_refl _) _)) HI.out).mono ?_); rintro e w1 ⟨rfl, h1⟩
  have H1 : Hid (Below w.heap.size w w1) := ((Below.refl _ _).alloc (Nat.le_refl _) _).trans (h1.mono (by simp))
  have z1 : w.heap.size < w1.heap.size := by have := h1.size; simp at this; omega
  have y0 : w1.cell? ⟨w.heap.size, 0, none⟩ = some (.int .u8 0) := cell_below h1 (by simp)
  have y1 : w1.cell? ⟨w.heap.size, 1, none⟩ = some (.int .i64 0) := cell_below h1 (by simp)
  have y2 : w1.cell? ⟨w.heap.size, 2, none⟩ = some (.int .i64 0) := cell_below h1 (by simp)
  have y3 : w1.cell? ⟨w.heap.size, 3, none⟩ = some (.int .i64 0) := cell_below h1 (by simp)
  have f0 : ∀ j, w1.frozen? ⟨w.heap.size, j, none⟩ = false := fun j => by have := (bcell h1).2 w.heap.size j (by simp); rw [this]; simp
  clear h1
  go_wp2_with fail
  have N0 : Hid (NewInv w1.heap.size w1 site ty d l 0 (w1.alloc (.cells #[.int .i64 site, .int .i64 ty, .int .i64 d, .bool true, .slice none 0 0] 39))) :=
    ⟨_, ⟨by simp, by simp, by simp, by simp, by simp, fun j => by simp⟩, World.ownsRow_nil _ _ _ _, (Below.refl _ _).alloc (Nat.le_refl _) _, by simp⟩
  go_loopw [16, 17, 18, 31] (fun _ _ _ i wr => ∃ k : Nat, k ≤ l.length ∧ i = .int .i64 k ∧ NewInv w1.heap.size w1 site ty d l k wr) (fun _ _ _ i _ => l.length - (intOf i).toNat)
  case atStart => exact ⟨0, Nat.zero_le _, rfl, N0.out⟩
  case round =>
    obtain ⟨k, hk, rfl, hv, hold, hown, hb, hkin⟩ := hrel
    have HO := Lib.hid hold
    obtain ⟨_, _, _, _, q4, qf⟩ := hold
    have q4' := Lib.hid q4
    have qf4 : wr.frozen? ⟨w1.heap.size, 4, none⟩ = false := qf 4
    have hgb : w1.heap.size < wr.heap.size := World.block_lt_of_cell? wr _ q4
    have HB := Lib.hid hb; clear hb
    have HK := Lib.hid hkin; clear hkin
    have HOWN := Lib.hid hown
    obtain ⟨Ah, ch, rfl⟩ := own_slice hown
    clear hown qf q4
    by_cases hlt : k < l.length
    · obtain ⟨ga, oa, rfl, hga, hx0, hxc⟩ := HL.out.get (List.getElem?_eq_getElem hlt)
      have xc : wr.cell? ⟨ga, oa + k, none⟩ = some (.int .u8 l[k]) := (HB.out.cell (p := ⟨ga, oa + k, none⟩) (by show ga < w1.heap.size; omega)).trans (cell_below H1.out hxc)
      clear hxc
      cases hkb : kindB l[k]
      · have HKB := Lib.hid hkb; clear hkb
        have e0 : newI m site ty d l = 2 := by
          have : kindsB l = false := by
            unfold kindsB
            rw [List.all_eq_false]
            exact ⟨l[k], List.getElem_mem hlt, by rw [HKB.out]; decide⟩
          simp [newI, HI.out, this]
        obtain ⟨rfl, rfl, rfl⟩ := new_is HR.out HP.out HE.out e0 (by decide)
        clear e0
        go_wp2_with fail
        (with_reducible refine (first_not _ hx0 HKB.out _).mono ?_); rintro e w2 ⟨rfl, h2⟩
        have H2 : Hid (Below w1.heap.size w1 w2) := HB.out.trans (h2.mono (Nat.le_of_lt hgb))
        have z2 : w1.heap.size < w2.heap.size := Nat.lt_of_lt_of_le hgb h2.size
        have z3 : w.heap.size < w2.heap.size := by omega
        have u0 : w2.cell? ⟨w.heap.size, 0, none⟩ = some (.int .u8 0) := (H2.out.cell (p := ⟨w.heap.size, 0, none⟩) z1).trans y0
        have u1 : w2.cell? ⟨w.heap.size, 1, none⟩ = some (.int .i64 0) := (H2.out.cell (p := ⟨w.heap.size, 1, none⟩) z1).trans y1
        have u2 : w2.cell? ⟨w.heap.size, 2, none⟩ = some (.int .i64 0) := (H2.out.cell (p := ⟨w.heap.size, 2, none⟩) z1).trans y2
        have u3 : w2.cell? ⟨w.heap.size, 3, none⟩ = some (.int .i64 0) := (H2.out.cell (p := ⟨w.heap.size, 3, none⟩) z1).trans y3
        have g0 : ∀ j, w2.frozen? ⟨w.heap.size, j, none⟩ = false := fun j => (H2.out.frozen (p := ⟨w.heap.size, j, none⟩) z1).trans (f0 j)
        clear h2 xc qf4 y0 y1 y2 y3 f0
        have B2 : Hid (Below w.heap.size w w2) := H1.out.trans (H2.out.mono (Nat.le_of_lt z1))
        go_wp2_with fail
        go_region
        all_goals
          go_wp2
          refine bodyPost_ret (v := .tuple #[.slice none 0 0, .agg #[.int .u8 0, .int .i64 0, .int .i64 0, .int .i64 0], .int .i64 2]) (by simp [results, Try.results16, go_sem, *]) rfl ⟨_, rfl, Lay.no _ _, ?_⟩
          repeat (first | exact B2.out | (with_reducible refine Below.drew ?_) | refine Below.setCell ?_ (by simp) _ | refine Below.alloc ?_ (by simp; omega) _)
      · have HKB := Lib.hid hkb; clear hkb
        clear y0 y1 y2 y3 f0
        go_wp2_with fail
        (with_reducible refine (first_yes _ HKB.out _).mono ?_); rintro e w2 ⟨rfl, h2⟩
        have H2 := Lib.hid h2
        have q4 := cell_below h2 q4'.out
        have z2 : w1.heap.size < w2.heap.size := Nat.lt_of_lt_of_le hgb h2.size
        have qf : w2.frozen? ⟨w1.heap.size, 4, none⟩ = false := (h2.frozen (p := ⟨w1.heap.size, 4, none⟩) hgb).trans qf4
        clear h2 xc qf4
        go_wp2_with (at_builtin; refine wpList_append_own_at _ rfl _ _ 37 rfl (w1.heap.size + 1) 24 i0 _ 4 32 Try.underlying37 HI0.out HZ0.out HZ1.out HZ2.out rfl (by decide) _ k (rowOf l k) rfl ?c0 _ 1 1 (valCells (firstV l[k])) rfl rfl ?c1 ?c2 ?c3 ?c4 ?c5 ?_)
        case c0 => exact ((own_below HOWN.out H2.out).alloc _).alloc _
        case c1 =>
          intro j u hj
          rw [add_at]
          match j, hj with
          | 0, hj => injection hj with hj; subst hj; simp [firstV]
          | 1, hj => injection hj with hj; subst hj; simp [firstV]
          | 2, hj => injection hj with hj; subst hj; simp [firstV]
          | 3, hj => injection hj with hj; subst hj; simp [firstV]
          | j + 4, hj => cases hj
        case c2 =>
          intro u hu
          simp only [valCells, List.mem_cons, List.not_mem_nil, or_false] at hu
          rcases hu with rfl | rfl | rfl | rfl <;> rfl
        case c3 => simp only [maxLen]; omega
        case c4 => omega
        case c5 => simp; omega
        intro v' w' hown' hgrow _ hat
        have hold' : Hold w' w1.heap.size site ty d (.slice Ah k ch) := by
          refine Hold.grown (((HO.out.below H2.out).below ((Below.refl _ _).alloc (Nat.le_refl _) _)).below ((Below.refl _ _).alloc (Nat.le_refl _) _)) hgrow ?_
          intro e
          have := own_base HOWN.out w1.heap.size e.symm
          omega
        have q4' := hold'.2.2.2.2.1
        have qf' : w'.frozen? ⟨w1.heap.size, 4, none⟩ = false := hold'.2.2.2.2.2 4
        have HO' := Lib.hid hold'; clear hold'
        have hb' : Below w1.heap.size w1 w' := by
          have e1 : Below w1.heap.size w1 w2 := HB.out.trans (H2.out.mono (Nat.le_of_lt hgb))
          refine ((e1.alloc (by omega) _).alloc (by simp; omega) _).grown hgrow (by simp; omega) (fun q hq => ?_)
          have := own_base HOWN.out q hq
          omega
        have HB' := Lib.hid hb'; clear hb'
        have HN' := Lib.hid hown'; clear hown' hgrow hat q4 qf
        obtain ⟨Ah2, ch2, rfl⟩ := own_slice HN'.out
        go_wp2
        go_roundw
        case rel =>
          refine ⟨k + 1, by omega, by go_num, _, HO'.out.set _, ?_, HB'.out.setCell (Nat.le_refl _) _, ?_⟩
          · have := own_far HN'.out (gb := w1.heap.size) (j := 4) (by omega) (.slice Ah2 (k + 1) ch2)
            rwa [← rowOf_succ hlt] at this
          · intro x hx
            rw [List.take_succ_eq_append_getElem hlt, List.mem_append] at hx
            rcases hx with hx | hx
            · exact HK.out x hx
            · simp at hx; subst hx; exact HKB.out
        case measure => simp [intOf]; omega
    · have : k = l.length := by omega
      subst this
      have HKS : Hid (kindsB l = true) := by
        have := HK.out
        rw [List.take_length] at this
        unfold Hid kindsB
        rw [List.all_eq_true]
        exact this
      obtain ⟨Am, cm, rfl, hmm, hmq⟩ := HM.out
      clear hmq
      have z3 : w.heap.size < wr.heap.size := by omega
      have u0 : wr.cell? ⟨w.heap.size, 0, none⟩ = some (.int .u8 0) := (HB.out.cell (p := ⟨w.heap.size, 0, none⟩) z1).trans y0
      have u1 : wr.cell? ⟨w.heap.size, 1, none⟩ = some (.int .i64 0) := (HB.out.cell (p := ⟨w.heap.size, 1, none⟩) z1).trans y1
      have u2 : wr.cell? ⟨w.heap.size, 2, none⟩ = some (.int .i64 0) := (HB.out.cell (p := ⟨w.heap.size, 2, none⟩) z1).trans y2
      have u3 : wr.cell? ⟨w.heap.size, 3, none⟩ = some (.int .i64 0) := (HB.out.cell (p := ⟨w.heap.size, 3, none⟩) z1).trans y3
      have g0 : ∀ j, wr.frozen? ⟨w.heap.size, j, none⟩ = false := fun j => (HB.out.frozen (p := ⟨w.heap.size, j, none⟩) z1).trans (f0 j)
      clear y0 y1 y2 y3 f0
      have B2 : Hid (Below w.heap.size w wr) := H1.out.trans (HB.out.mono (Nat.le_of_lt z1))
      have HMAY := HI.out
      by_cases hbad : site < 0 ∨ ty < 0 ∨ d < 0 ∨ l.length < 1 ∨ 32 < l.length
      · have hmin : min3 site ty d < 0 ∨ l.length < 1 ∨ 32 < l.length := by rw [min3_neg]; omega
        have e0 : newI m site ty d l = 2 := by unfold newI; rw [if_pos HMAY, if_pos (.inr hbad)]
        obtain ⟨rfl, rfl, rfl⟩ := new_is HR.out HP.out HE.out e0 (by decide)
        clear e0 HMAY
        go_wp2_with fail
        all_goals
          go_region
          go_wp2
          refine bodyPost_ret (v := .tuple #[.slice none 0 0, .agg #[.int .u8 0, .int .i64 0, .int .i64 0, .int .i64 0], .int .i64 2]) (by simp [results, Try.results16, go_sem, *]) rfl ⟨_, rfl, Lay.no _ _, ?_⟩
          repeat (first | exact B2.out | (with_reducible refine Below.drew ?_) | refine Below.setCell ?_ (by simp) _ | refine Below.alloc ?_ (by simp; omega) _)
      · have hmin : decide (min3 site ty d < 0) = false := by rw [decide_eq_false_iff_not, min3_neg]; omega
        by_cases hbig : 4096 ≤ m.length
        · have e0 : newI m site ty d l = 9 := by unfold newI; rw [if_pos HMAY, if_neg (by rw [HKS.out]; simpa using hbad), if_pos hbig]
          obtain ⟨rfl, rfl, rfl⟩ := new_is HR.out HP.out HE.out e0 (by decide)
          clear e0 HMAY
          go_wp2_with fail
          all_goals
            go_region
            go_wp2
            refine bodyPost_ret (v := .tuple #[.slice none 0 0, .agg #[.int .u8 0, .int .i64 0, .int .i64 0, .int .i64 0], .int .i64 9]) (by simp [results, Try.results16, go_sem, *]) rfl ⟨_, rfl, Lay.no _ _, ?_⟩
            repeat (first | exact B2.out | (with_reducible refine Below.drew ?_) | refine Below.setCell ?_ (by simp) _ | refine Below.alloc ?_ (by simp; omega) _)
        · have e0 : newI m site ty d l = 0 := by unfold newI; rw [if_pos HMAY, if_neg (by rw [HKS.out]; simpa using hbad), if_neg hbig]
          obtain ⟨rfl, rfl, rfl⟩ := new_is0 HR.out HP.out HE.out e0
          clear e0 HMAY
          obtain ⟨j0, hj, hjj⟩ := Option.map_eq_some_iff.1 info39
          simp only [Prod.mk.injEq] at hjj
          obtain ⟨hj0, hj1, hj2⟩ := hjj
          have HJ := Lib.hid hj; clear hj
          have HJ0 := Lib.hid hj0; clear hj0
          have HJ1 := Lib.hid hj1; clear hj1
          have HJ2 := Lib.hid hj2; clear hj2
          have HML := Lib.hid (mayM_len HI.out)
          have HBIG : Hid (m.length < 4096) := by unfold Hid; omega
          have HN : Hid (wr.ownsRow (w1.heap.size + 1) 24 4 (.slice Ah l.length ch) (newB site ty d l).cells.length ((newB site ty d l).cells.flatMap valCells)) := by
            have := HOWN.out
            unfold rowOf at this
            rw [List.take_length] at this
            simpa [newB, Hid] using this
          obtain ⟨q0, q1, q2, q3, q4, _⟩ := HO.out
          have HM2 := Lib.hid (HM.out.below B2.out)
          go_wp2_with fail
          all_goals
            go_region_law (first
              | (go_simp; go_at_call 28; refine (twin_any _ (HM2.out.below (by repeat (first | exact Below.refl _ _ | (with_reducible refine Below.drew ?_) | refine Below.alloc ?_ (by simp) _))) HML.out.1 HML.out.2).mono ?_; rintro e w5 ⟨v5, rfl, hlay, h5⟩; obtain ⟨ps, hps, hoo, hin, hap⟩ := hlay; have HW : Hid (Below wr.heap.size wr w5) := Below.trans (by repeat (first | exact Below.refl _ _ | (with_reducible refine Below.drew ?_) | refine Below.alloc ?_ (by simp) _)) (h5.mono (by simp)); have H5 := Lib.hid h5; have HOO := Lib.hid hoo; have HIN := Lib.hid hin; have HAP := Lib.hid hap; have HH := Lib.hid h5.size; have HH2 : Hid (wr.heap.size ≤ w5.heap.size) := Nat.le_trans (by simp) h5.size; have HPS := Lib.hid hps; have HLN : Hid (ps.length + 1 ≤ maxLen ∧ (ps.length + 1) * 56 ≤ 140737488355328) := (by have := congrArg List.length hps; simp at this; have := HBIG.out; unfold Hid maxLen; omega); have q0' := cell_below HW.out q0; have q1' := cell_below HW.out q1; have q2' := cell_below HW.out q2; have q3' := cell_below HW.out q3; have q4' := cell_below HW.out q4; clear h5 hoo hin hap hps)
              | (refine step_append_lies _ rfl (.tmp 72) (.tmp 74) 22 rfl _ 39 j0 _ 5 56 rfl HJ.out HJ0.out HJ1.out HJ2.out rfl (by decide) _ _ _ (by simp [Act.eval]) HOO.out ⟨wr.heap.size, 0, none⟩ 1 1 (blkCells (newB site ty d l, .slice Ah l.length ch)) (by simp [Act.eval]) rfl (by intro j u hj; rw [add_at]; (match j, hj with | 0, hj | 1, hj | 2, hj | 3, hj | 4, hj => (injection hj with hj; subst hj; exact cell_below H5.out (by simp [newB])) | j + 5, hj => cases hj)) (by intro u hu; simp only [blkCells, List.mem_cons, List.not_mem_nil, or_false] at hu; rcases hu with rfl | rfl | rfl | rfl | rfl <;> rfl) (by decide) HLN.out.1 HLN.out.2 HH.out _ rfl ?_; intro g cap w6 hrow hgrow hat hg6; have BX := Lib.hid HW.out; have hne : some w.heap.size ≠ v5.ownBlock := (fun e => by have := own_base HOO.out _ e.symm; simp at this; omega); have U0 := hgrow.cell (cell_below BX.out u0) hne; have U1 := hgrow.cell (cell_below BX.out u1) hne; have U2 := hgrow.cell (cell_below BX.out u2) hne; have U3 := hgrow.cell (cell_below BX.out u3) hne; have G0 : ∀ j, w6.frozen? ⟨w.heap.size, j, none⟩ = false := (fun j => (hgrow.frozen_far ⟨w.heap.size, j, none⟩ (Nat.lt_of_lt_of_le z3 BX.out.size) hne).trans ((BX.out.frozen (p := ⟨w.heap.size, j, none⟩) z3).trans (g0 j))); have HPL : Hid (ps.length = m.length) := Lib.hid (by have := congrArg List.length HPS.out; simpa using this); have HLAY : Hid (Lay (w.heap.size + 1) w6 (.slice (some ⟨g, 0, none⟩) (ps.length + 1) cap) (m ++ [newB site ty d l])) := (by rw [← HPS.out]; exact lay_push (base := w.heap.size + 1) (b0 := w1.heap.size + 1) (by simp; omega) (by omega) HOO.out HIN.out HAP.out hrow hgrow hat (own_below HN.out BX.out) (fun q hq => Nat.lt_of_lt_of_le (HN.out.lt q hq).2 (by simp))); have B6 : Hid (Below w.heap.size w w6) := (B2.out.trans (BX.out.mono (by omega))).grown hgrow (Nat.le_of_lt (Nat.lt_of_lt_of_le z3 BX.out.size)) (fun q hq => by have := own_base HOO.out q hq; simp at this; omega); clear hrow hgrow hat q0' q1' q2' q3' q4' hne)
              | (refine step_append_lies _ rfl (.tmp 72) (.tmp 74) 22 rfl _ 39 j0 _ 5 56 rfl HJ.out HJ0.out HJ1.out HJ2.out rfl (by decide) _ _ _ (by simp [Act.eval]) (HOO.out.alloc (.cells #[.int .i64 site, .int .i64 ty, .int .i64 d, .bool true, .slice Ah l.length ch] 39)) ⟨w5.heap.size, 0, none⟩ 1 1 (blkCells (newB site ty d l, .slice Ah l.length ch)) (by simp [Act.eval]) rfl (by intro j u hj; rw [add_at]; (match j, hj with | 0, hj | 1, hj | 2, hj | 3, hj | 4, hj => (injection hj with hj; subst hj; simp [newB]) | j + 5, hj => cases hj)) (by intro u hu; simp only [blkCells, List.mem_cons, List.not_mem_nil, or_false] at hu; rcases hu with rfl | rfl | rfl | rfl | rfl <;> rfl) (by decide) HLN.out.1 HLN.out.2 (Nat.le_trans HH2.out (by simp)) _ rfl ?_; intro g cap w6 hrow hgrow hat hg6; have BX := Lib.hid (HW.out.alloc HH2.out (.cells #[.int .i64 site, .int .i64 ty, .int .i64 d, .bool true, .slice Ah l.length ch] 39)); have hne : some w.heap.size ≠ v5.ownBlock := (fun e => by have := own_base HOO.out _ e.symm; simp at this; omega); have U0 := hgrow.cell (cell_below BX.out u0) hne; have U1 := hgrow.cell (cell_below BX.out u1) hne; have U2 := hgrow.cell (cell_below BX.out u2) hne; have U3 := hgrow.cell (cell_below BX.out u3) hne; have G0 : ∀ j, w6.frozen? ⟨w.heap.size, j, none⟩ = false := (fun j => (hgrow.frozen_far ⟨w.heap.size, j, none⟩ (Nat.lt_of_lt_of_le z3 BX.out.size) hne).trans ((BX.out.frozen (p := ⟨w.heap.size, j, none⟩) z3).trans (g0 j))); have HPL : Hid (ps.length = m.length) := Lib.hid (by have := congrArg List.length HPS.out; simpa using this); have HLAY : Hid (Lay (w.heap.size + 1) w6 (.slice (some ⟨g, 0, none⟩) (ps.length + 1) cap) (m ++ [newB site ty d l])) := (by rw [← HPS.out]; exact lay_push (base := w.heap.size + 1) (b0 := w1.heap.size + 1) (by simp; omega) (by omega) (HOO.out.alloc (.cells #[.int .i64 site, .int .i64 ty, .int .i64 d, .bool true, .slice Ah l.length ch] 39)) (fun q hq p hp => (HIN.out q hq p hp).below ((Below.refl _ _).alloc (Nat.le_refl _) _)) HAP.out hrow hgrow hat (own_below HN.out BX.out) (fun q hq => Nat.lt_of_lt_of_le (HN.out.lt q hq).2 (by simp))); have B6 : Hid (Below w.heap.size w w6) := (B2.out.trans (BX.out.mono (by omega))).grown hgrow (Nat.le_of_lt (Nat.lt_of_lt_of_le z3 BX.out.size)) (fun q hq => by have := own_base HOO.out q hq; simp at this; omega); clear hrow hgrow hat q0' q1' q2' q3' q4' hne))
            all_goals
              clear u0 u1 u2 u3 g0 q0 q1 q2 q3 q4
              go_wp2
              refine bodyPost_ret (v := .tuple #[.slice (some ⟨g, 0, none⟩) (ps.length + 1) cap, .agg #[.int .u8 2, .int .i64 0, .int .i64 (ps.length + 1 : Nat), .int .i64 0], .int .i64 0]) (by simp [results, Try.results16, go_sem, *]) rfl ⟨.slice (some ⟨g, 0, none⟩) (ps.length + 1) cap, by rw [HPL.out]; simp, ?_, ?_⟩
              · refine Lay.lower ?_ (Nat.le_succ _)
                repeat (first | exact HLAY.out | refine Lay.under ?_ (Nat.lt_succ_self _) _)
              · repeat (first | exact B6.out | refine Below.setCell ?_ (by simp) _)

/-- New, whatever is handed in (at most 40 kinds). -/
theorem new_any {m : List Blk} {v lv : Value} {l : List Int} (site ty d : Int) (w : World) (hm : BsAt w v m) (hl : KsAt w lv l) (hlx : l.length ≤ 40) : Calls Try.prog 16 #[v, .int .i64 site, .int .i64 ty, .int .i64 d, lv] w (NewP (newR m site ty d l) (newV m site ty d l) (newI m site ty d l) w) := by
  cases h : mayM m
  · have e : newI m site ty d l = 8 := by simp [newI, h]
    rw [newR, newV, e, if_neg (by decide), if_neg (by decide)]
    exact new_no site ty d w hm h
  · exact new_loop site ty d w hm hl hlx h rfl rfl rfl

end Go.Proofs.Ytmelamlngjflkaa

/- Memories that the code itself has made: 'Lay base w v m': the slice value v owns the blocks m, in the machine's blocks from base on, no two of whose cells lie in one place. What stores, more blocks and an append do to it. -/
import Derived.WalkKit
import Derived.OwnWalk
import Derived.Laws.OwnMore
import Derived.Below
import Derived.Test.YtmelamlngjflkaaRep
namespace Go.Proofs.Ytmelamlngjflkaa
open Go.RowKit

theorem flat_len {α : Type} {f : α → List Value} {c : Nat} (hf : ∀ x, (f x).length = c) : ∀ l : List α, (l.flatMap f).length = l.length * c
  | [] => by simp
  | x :: l => by rw [List.flatMap_cons, List.length_append, hf, flat_len hf l, List.length_cons, Nat.succ_mul, Nat.add_comm]

theorem flat_get {α : Type} {f : α → List Value} {c : Nat} (hf : ∀ x, (f x).length = c) : ∀ (l : List α) (i j : Nat), j < c → (l.flatMap f)[i * c + j]? = (l[i]?).bind fun x => (f x)[j]?
  | [], i, j, _ => by simp
  | x :: l, 0, j, h => by
    rw [List.flatMap_cons, Nat.zero_mul, Nat.zero_add, List.getElem?_append_left (by rw [hf]; exact h)]
    simp
  | x :: l, i + 1, j, h => by
    rw [List.flatMap_cons, List.getElem?_append_right (by rw [hf, Nat.succ_mul]; omega), hf, show (i + 1) * c + j - c = i * c + j by rw [Nat.succ_mul]; omega, flat_get hf l i j h]
    simp

/-- Two lists of one length that are the same at each place. -/
theorem flat_ext {α : Type} {f : α → List Value} {c : Nat} (hc : 0 < c) (hf : ∀ x, (f x).length = c) {l : List α} {xs : List Value} (hl : xs.length = l.length * c) (h : ∀ i x, l[i]? = some x → ∀ j u, (f x)[j]? = some u → xs[i * c + j]? = some u) : xs = l.flatMap f := by
  apply List.ext_getElem?
  intro k
  by_cases hk : k < l.length * c
  · have hi : k / c < l.length := Nat.div_lt_of_lt_mul (by rwa [Nat.mul_comm])
    have hj : k % c < c := Nat.mod_lt _ hc
    have e : k / c * c + k % c = k := by rw [Nat.mul_comm]; exact Nat.div_add_mod k c
    have hg := List.getElem?_eq_getElem hi
    have hfl : k % c < (f l[k / c]).length := by rw [hf]; exact hj
    have h1 := h _ _ hg _ _ (List.getElem?_eq_getElem hfl)
    rw [e] at h1
    rw [h1]
    have h2 := flat_get hf l (k / c) (k % c) hj
    rw [e, hg, Option.bind_some, List.getElem?_eq_getElem hfl] at h2
    rw [h2]
  · rw [List.getElem?_eq_none (by omega), List.getElem?_eq_none (by rw [flat_len hf]; omega)]

def valCells (x : Val) : List Value := [.int .u8 x.k, .int .i64 x.n, .int .i64 x.b, .int .i64 x.o]
theorem valCells_len (x : Val) : (valCells x).length = 4 := rfl
def blkCells (p : Blk × Value) : List Value := [.int .i64 p.1.site, .int .i64 p.1.ty, .int .i64 p.1.dep, .bool p.1.alive, p.2]
theorem blkCells_len (p : Blk × Value) : (blkCells p).length = 5 := rfl

/-- A list of values in blocks of the code's own, none of them block g. -/
def Inn (base g : Nat) (w : World) (h : Value) (l : List Val) : Prop :=
  ∃ A cp, h = .slice A l.length cp ∧ l.length ≤ cp ∧ l.length ≤ 9223372036854775807 ∧
    ∀ k x, l[k]? = some x → ∃ b o, A = some ⟨b, o, none⟩ ∧ base ≤ b ∧ b ≠ g ∧ VAt w b (o + k * 4) x ∧ ∀ j, j < 4 → w.frozen? ⟨b, o + k * 4 + j, none⟩ = false

/-- No two lists have a cell in one place. -/
def Apart (ps : List (Blk × Value)) : Prop :=
  ∀ (i j : Nat) (p q : Blk × Value), i ≠ j → ps[i]? = some p → ps[j]? = some q → ∀ b o o' n n' c c', p.2 = .slice (some ⟨b, o, none⟩) n c → q.2 = .slice (some ⟨b, o', none⟩) n' c' → 0 < n → 0 < n' → o + n * 4 ≤ o' ∨ o' + n' * 4 ≤ o

def Lay (base : Nat) (w : World) (v : Value) (m : List Blk) : Prop :=
  ∃ ps : List (Blk × Value), ps.map (·.1) = m ∧ w.ownsRow base 39 5 v ps.length (ps.flatMap blkCells) ∧ (∀ g, v.ownBlock = some g → ∀ p ∈ ps, Inn base g w p.2 p.1.cells) ∧ Apart ps

theorem Lay.len {base : Nat} {w : World} {v : Value} {m : List Blk} (h : Lay base w v m) : ∃ A c, v = .slice A m.length c ∧ m.length ≤ 9223372036854775807 := by
  obtain ⟨ps, rfl, ho, _⟩ := h
  rw [List.length_map]
  rcases ho.2 with ⟨hv, hn⟩ | ⟨g, cap, cur, hv, _, _, h1, h2, _⟩
  · exact ⟨none, 0, by rw [hv, hn], by omega⟩
  · exact ⟨_, cap, hv, Nat.le_trans h1 (by simpa [maxLen] using h2)⟩

/-- A memory of the code's own, by its parts. -/
theorem Lay.form {base : Nat} {w : World} {v : Value} {m : List Blk} (h : Lay base w v m) (hn : 0 < m.length) :
    ∃ g cap ps, v = .slice (some ⟨g, 0, none⟩) m.length cap ∧ ps.map (·.1) = m ∧ base ≤ g ∧ g < w.heap.size ∧ w.ownsRow base 39 5 (.slice (some ⟨g, 0, none⟩) ps.length cap) ps.length (ps.flatMap blkCells) ∧ (∀ p ∈ ps, Inn base g w p.2 p.1.cells) ∧ Apart ps := by
  obtain ⟨ps, rfl, ho, hi, ha⟩ := h
  rw [List.length_map] at hn ⊢
  have hlt := ho.lt
  have ho' := ho
  rcases ho.2 with ⟨hv, h0⟩ | ⟨g, cap, cur, hv, hb, hg, h1, h2, h3, h4⟩
  · omega
  · subst hv
    exact ⟨g, cap, ps, rfl, rfl, hb, (hlt g rfl).2, ho', hi g rfl, ha⟩

theorem row_cell {base : Nat} {w : World} {g cap : Nat} {ps : List (Blk × Value)} (ho : w.ownsRow base 39 5 (.slice (some ⟨g, 0, none⟩) ps.length cap) ps.length (ps.flatMap blkCells)) {i : Nat} {p : Blk × Value} (hp : ps[i]? = some p) {j : Nat} (hj : j < 5) :
    w.cell? ⟨g, i * 5 + j, none⟩ = (blkCells p)[j]? := by
  have hi := (List.getElem?_eq_some_iff.1 hp).1
  rw [ho.cellAt (i * 5 + j) (by omega), flat_get blkCells_len _ _ _ hj, hp]
  rfl

theorem Inn.vs {base g : Nat} {w : World} {h : Value} {l : List Val} (hi : Inn base g w h l) : VsAt w h l := by
  obtain ⟨A, cp, hv, _, hl, hx⟩ := hi
  refine ⟨A, cp, hv, hl, fun k x hk => ?_⟩
  obtain ⟨b, o, hA, _, _, hv, _⟩ := hx k x hk
  exact ⟨b, o, hA, hv⟩

theorem Lay.reads {base : Nat} {w : World} {v : Value} {m : List Blk} (h : Lay base w v m) : BsAt w v m := by
  obtain ⟨A, c, hv, hl⟩ := h.len
  refine ⟨A, c, hv, hl, fun i b hi => ?_⟩
  obtain ⟨g, cap, ps, hv2, hps, hb, _, ho, hin, _⟩ := h.form (by have := (List.getElem?_eq_some_iff.1 hi).1; omega)
  rw [hv] at hv2
  injection hv2 with h1 _ _
  subst h1
  rw [← hps, List.getElem?_map, Option.map_eq_some_iff] at hi
  obtain ⟨p, hp, rfl⟩ := hi
  refine ⟨g, 0, rfl, ?_⟩
  rw [Nat.zero_add]
  exact ⟨row_cell ho hp (j := 0) (by omega), row_cell ho hp (j := 1) (by omega), row_cell ho hp (j := 2) (by omega), row_cell ho hp (j := 3) (by omega), p.2, row_cell ho hp (j := 4) (by omega), (hin p (List.mem_of_getElem? hp)).vs⟩

theorem grown_below {w w1 : World} (h : Below w.heap.size w w1) (row : Option Nat) : w.grownBy w1 row := ⟨h.os, h.tape, h.output, h.size, fun i hi _ => h.block i hi⟩

theorem Inn.below {base g : Nat} {w w1 : World} {h : Value} {l : List Val} (hi : Inn base g w h l) (hb : Below w.heap.size w w1) : Inn base g w1 h l := by
  obtain ⟨A, cp, hv, h1, hl, hx⟩ := hi
  refine ⟨A, cp, hv, h1, hl, fun k x hk => ?_⟩
  obtain ⟨b, o, hA, hb1, hb2, hv, hf⟩ := hx k x hk
  have hlt := World.block_lt_of_cell? w _ hv.1
  exact ⟨b, o, hA, hb1, hb2, hv.below hb, fun j hj => (hb.frozen (p := ⟨b, o + k * 4 + j, none⟩) hlt).trans (hf j hj)⟩

theorem Lay.below {base : Nat} {w w1 : World} {v : Value} {m : List Blk} (h : Lay base w v m) (hb : Below w.heap.size w w1) : Lay base w1 v m := by
  obtain ⟨ps, hm, ho, hi, ha⟩ := h
  exact ⟨ps, hm, ho.kept (grown_below hb none) (by cases v.ownBlock <;> simp), fun g hg p hp => (hi g hg p hp).below hb, ha⟩

/-- A store into another block turns nothing of it. -/
theorem Inn.far {base g : Nat} {w : World} {h : Value} {l : List Val} (hi : Inn base g w h l) (j : Nat) (u : Value) : Inn base g (w.setCell ⟨g, j, none⟩ u) h l := by
  obtain ⟨A, cp, hv, h1, hl, hx⟩ := hi
  refine ⟨A, cp, hv, h1, hl, fun k x hk => ?_⟩
  obtain ⟨b, o, hA, hb1, hb2, hv, hf⟩ := hx k x hk
  have e : ∀ q, (w.setCell ⟨g, j, none⟩ u).cell? ⟨b, q, none⟩ = w.cell? ⟨b, q, none⟩ := fun q => World.cell?_setCell_other _ _ _ _ (fun e => hb2 (by injection e with e1; exact e1.symm))
  refine ⟨b, o, hA, hb1, hb2, ?_, fun j' hj => (World.frozen?_setCell _ _ _ _).trans (hf j' hj)⟩
  exact ⟨(e _).trans hv.1, (e _).trans hv.2.1, (e _).trans hv.2.2.1, (e _).trans hv.2.2.2⟩

theorem set_getElem? {α : Type} {l : List α} {i : Nat} {x y : α} {k : Nat} (h : (l.set i x)[k]? = some y) : (k = i ∧ y = x) ∨ (k ≠ i ∧ l[k]? = some y) := by
  rw [List.getElem?_set] at h
  by_cases e : i = k
  · subst e
    rw [if_pos rfl] at h
    split at h
    · injection h with h
      exact .inl ⟨rfl, h.symm⟩
    · cases h
  · rw [if_neg e] at h
    exact .inr ⟨fun e' => e e'.symm, h⟩

theorem flat_set {ps : List (Blk × Value)} {i : Nat} {p p' : Blk × Value} (hp : ps[i]? = some p) {j : Nat} (hj : j < 5) {u : Value} (hu : blkCells p' = (blkCells p).set j u) : (ps.flatMap blkCells).set (i * 5 + j) u = (ps.set i p').flatMap blkCells := by
  have hi := (List.getElem?_eq_some_iff.1 hp).1
  refine flat_ext (by omega) blkCells_len (by simp [flat_len blkCells_len]) fun k x hk j' u' hu' => ?_
  have hj' : j' < 5 := (List.getElem?_eq_some_iff.1 hu').1
  rw [List.getElem?_set]
  rcases set_getElem? hk with ⟨rfl, rfl⟩ | ⟨hne, hk'⟩
  · rw [hu, List.getElem?_set] at hu'
    by_cases e : j = j'
    · subst e
      rw [if_pos rfl, if_pos (by rw [flat_len blkCells_len]; omega)]
      rw [if_pos rfl] at hu'
      split at hu'
      · exact hu'
      · cases hu'
    · rw [if_neg (by omega), flat_get blkCells_len _ _ _ hj', hp]
      rw [if_neg e] at hu'
      exact hu'
  · rw [if_neg (by omega), flat_get blkCells_len _ _ _ hj', hk']
    exact hu'

/-- A field of a block is stored (not its cells). -/
theorem Lay.field {base : Nat} {w : World} {m : List Blk} {g cap n : Nat} (h : Lay base w (.slice (some ⟨g, 0, none⟩) n cap) m) {i : Nat} {b b' : Blk} (hi : m[i]? = some b) (hc : b'.cells = b.cells) {j : Nat} (hj : j < 4) {u : Value}
    (hu : ∀ hv, blkCells (b', hv) = (blkCells (b, hv)).set j u) : Lay base (w.setCell ⟨g, i * 5 + j, none⟩ u) (.slice (some ⟨g, 0, none⟩) n cap) (m.set i b') := by
  obtain ⟨ps, rfl, ho, hin, ha⟩ := h
  rw [List.getElem?_map, Option.map_eq_some_iff] at hi
  obtain ⟨p, hp, rfl⟩ := hi
  have hn : n = ps.length := by
    rcases ho.2 with ⟨hv, h0⟩ | ⟨g', cap', cur, hv, _⟩
    · cases hv
    · injection hv
  subst hn
  refine ⟨ps.set i (b', p.2), by rw [List.map_set], ?_, ?_, ?_⟩
  · have := (ho.stored (i * 5 + j) u).1
    rw [flat_set hp (by omega) (hu p.2)] at this
    simpa using this
  · intro g' hg' q hq
    obtain rfl : g = g' := by simpa [Value.ownBlock] using hg'
    rcases List.mem_or_eq_of_mem_set hq with hq | rfl
    · exact (hin g rfl q hq).far _ _
    · have := (hin g rfl p (List.mem_of_getElem? hp)).far (i * 5 + j) u
      simpa [hc] using this
  · intro i1 i2 p1 p2 hne h1 h2
    have e1 : ∃ p1', ps[i1]? = some p1' ∧ p1'.2 = p1.2 := by
      rcases set_getElem? h1 with ⟨rfl, rfl⟩ | ⟨_, hk⟩
      · exact ⟨p, hp, rfl⟩
      · exact ⟨p1, hk, rfl⟩
    have e2 : ∃ p2', ps[i2]? = some p2' ∧ p2'.2 = p2.2 := by
      rcases set_getElem? h2 with ⟨rfl, rfl⟩ | ⟨_, hk⟩
      · exact ⟨p, hp, rfl⟩
      · exact ⟨p2, hk, rfl⟩
    obtain ⟨q1, hq1, hq1'⟩ := e1
    obtain ⟨q2, hq2, hq2'⟩ := e2
    rw [← hq1', ← hq2']
    exact ha i1 i2 q1 q2 hne hq1 hq2

/-- Where a value of a block lies. -/
theorem Lay.at {base : Nat} {w : World} {m : List Blk} {g cap n : Nat} (h : Lay base w (.slice (some ⟨g, 0, none⟩) n cap) m) {i : Nat} {bk : Blk} (hi : m[i]? = some bk) {k : Nat} {x : Val} (hk : bk.cells[k]? = some x) :
    ∃ b o c, w.cell? ⟨g, i * 5 + 4, none⟩ = some (.slice (some ⟨b, o, none⟩) bk.cells.length c) ∧ base ≤ b ∧ b ≠ g ∧ b < w.heap.size ∧ VAt w b (o + k * 4) x ∧ ∀ j, j < 4 → w.frozen? ⟨b, o + k * 4 + j, none⟩ = false := by
  obtain ⟨ps, rfl, ho, hin, ha⟩ := h
  rw [List.getElem?_map, Option.map_eq_some_iff] at hi
  obtain ⟨p, hp, rfl⟩ := hi
  have hn : n = ps.length := by
    rcases ho.2 with ⟨hv, h0⟩ | ⟨g', cap', cur, hv, _⟩
    · cases hv
    · injection hv
  subst hn
  obtain ⟨A, cp, hv, _, _, hx⟩ := hin g rfl p (List.mem_of_getElem? hp)
  obtain ⟨b, o, rfl, h1, h2, h3, h4⟩ := hx k x hk
  refine ⟨b, o, cp, ?_, h1, h2, World.block_lt_of_cell? w _ h3.1, h3, h4⟩
  rw [row_cell ho hp (j := 4) (by omega), ← hv]
  rfl

theorem vat_set {w : World} {b o j : Nat} {x x' : Val} {u : Value} (hv : VAt w b o x) (hj : j < 4) (hu : valCells x' = (valCells x).set j u) : VAt (w.setCell ⟨b, o + j, none⟩ u) b o x' := by
  have hc : ∀ q y, (valCells x)[q]? = some y → w.cell? ⟨b, o + q, none⟩ = some y := by
    intro q y hq
    match q, hq with
    | 0, hq => injection hq with hq; subst hq; exact hv.1
    | 1, hq => injection hq with hq; subst hq; exact hv.2.1
    | 2, hq => injection hq with hq; subst hq; exact hv.2.2.1
    | 3, hq => injection hq with hq; subst hq; exact hv.2.2.2
    | q + 4, hq => cases hq
  have hd : ∀ q y, (valCells x')[q]? = some y → (w.setCell ⟨b, o + j, none⟩ u).cell? ⟨b, o + q, none⟩ = some y := by
    intro q y hq
    rw [hu, List.getElem?_set] at hq
    by_cases e : j = q
    · subst e
      rw [if_pos rfl] at hq
      split at hq
      · injection hq with hq
        subst hq
        obtain ⟨y0, hy0⟩ : ∃ y0, (valCells x)[j]? = some y0 := ⟨_, List.getElem?_eq_getElem (by rw [valCells_len]; exact hj)⟩
        exact World.cell?_setCell_same _ _ _ (hc j y0 hy0)
      · cases hq
    · rw [if_neg e] at hq
      rw [World.cell?_setCell_other _ _ _ _ (fun e' => e (by injection e' with _ e2; omega))]
      exact hc q y hq
  exact ⟨hd 0 _ rfl, hd 1 _ rfl, hd 2 _ rfl, hd 3 _ rfl⟩

theorem vat_other {w : World} {b o b' p : Nat} {x : Val} {u : Value} (hv : VAt w b o x) (h : b' ≠ b ∨ p < o ∨ o + 4 ≤ p) : VAt (w.setCell ⟨b', p, none⟩ u) b o x := by
  have e : ∀ q, q < 4 → (w.setCell ⟨b', p, none⟩ u).cell? ⟨b, o + q, none⟩ = w.cell? ⟨b, o + q, none⟩ := fun q hq => World.cell?_setCell_other _ _ _ _ (fun e => by injection e with e1 e2; omega)
  exact ⟨(e 0 (by omega)).trans hv.1, (e 1 (by omega)).trans hv.2.1, (e 2 (by omega)).trans hv.2.2.1, (e 3 (by omega)).trans hv.2.2.2⟩

/-- One cell of a value of a block is stored. -/
theorem Lay.cell {base : Nat} {w : World} {m : List Blk} {g cap n : Nat} (h : Lay base w (.slice (some ⟨g, 0, none⟩) n cap) m) {i : Nat} {bk : Blk} (hi : m[i]? = some bk) {k : Nat} {x x' : Val} (hk : bk.cells[k]? = some x)
    {b o len c : Nat} (hc : w.cell? ⟨g, i * 5 + 4, none⟩ = some (.slice (some ⟨b, o, none⟩) len c)) {j : Nat} (hj : j < 4) {u : Value} (hu : valCells x' = (valCells x).set j u) :
    Lay base (w.setCell ⟨b, o + k * 4 + j, none⟩ u) (.slice (some ⟨g, 0, none⟩) n cap) (m.set i { bk with cells := bk.cells.set k x' }) := by
  obtain ⟨b', o', c', hc', hb1, hb2, _, hv, hf⟩ := h.at hi hk
  rw [hc] at hc'
  injection hc' with hc'
  injection hc' with e1 e2 e3
  injection e1 with e1
  injection e1 with e4 e5
  subst e4 e5 e2 e3
  obtain ⟨ps, rfl, ho, hin, ha⟩ := h
  rw [List.getElem?_map, Option.map_eq_some_iff] at hi
  obtain ⟨p, hp, rfl⟩ := hi
  have hn : n = ps.length := by
    rcases ho.2 with ⟨hv, h0⟩ | ⟨g', cap', cur, hv, _⟩
    · cases hv
    · injection hv
  subst hn
  have hp2 : p.2 = .slice (some ⟨b, o, none⟩) p.1.cells.length c := by
    rw [row_cell ho hp (j := 4) (by omega)] at hc
    injection hc
  have hkl := (List.getElem?_eq_some_iff.1 hk).1
  have hil := (List.getElem?_eq_some_iff.1 hp).1
  have hlen : ps.length = (ps.set i ({ p.1 with cells := p.1.cells.set k x' }, p.2)).length := by simp
  have hflat : (ps.set i ({ p.1 with cells := p.1.cells.set k x' }, p.2)).flatMap blkCells = ps.flatMap blkCells := by
    refine (flat_ext (by omega) blkCells_len (by simp [flat_len blkCells_len]) fun i' q hq j' u' hu' => ?_).symm
    have hj' : j' < 5 := (List.getElem?_eq_some_iff.1 hu').1
    rcases set_getElem? hq with ⟨rfl, rfl⟩ | ⟨_, hq'⟩
    · rw [flat_get blkCells_len _ _ _ hj', hp]
      exact hu'
    · rw [flat_get blkCells_len _ _ _ hj', hq']
      exact hu'
  refine ⟨ps.set i ({ p.1 with cells := p.1.cells.set k x' }, p.2), by rw [List.map_set], ?_, ?_, ?_⟩
  · rw [← hlen, hflat]
    exact ho.kept (row := some b) ⟨rfl, rfl, rfl, by simp [World.setCell], fun q hq hne => Below.heap_setCell _ _ _ _ (fun e => hne (by rw [e]))⟩ (.inr (by simpa [Value.ownBlock] using fun e => hb2 e.symm))
  · intro g' hg' q hq
    obtain rfl : g = g' := by simpa [Value.ownBlock] using hg'
    obtain ⟨i', hi'⟩ := List.mem_iff_getElem?.1 hq
    rcases set_getElem? hi' with ⟨rfl, rfl⟩ | ⟨hne, hi''⟩
    · obtain ⟨A, cp, hh, h1, hl, hx⟩ := hin g rfl p (List.mem_of_getElem? hp)
      rw [hp2] at hh
      injection hh with e1 _ e3
      subst e1 e3
      refine ⟨some ⟨b, o, none⟩, c, by rw [hp2]; simp, by simpa using h1, by simpa using hl, fun k' y hk' => ?_⟩
      rcases set_getElem? hk' with ⟨rfl, rfl⟩ | ⟨hnk, hk''⟩
      · exact ⟨b, o, rfl, hb1, hb2, vat_set hv hj hu, fun q hq => (World.frozen?_setCell _ _ _ _).trans (hf q hq)⟩
      · obtain ⟨b2, o2, e, h3, h4, h5, h6⟩ := hx k' y hk''
        injection e with e
        injection e with e1 e2
        subst e1 e2
        exact ⟨b, o, rfl, h3, h4, vat_other h5 (.inr (by omega)), fun q hq => (World.frozen?_setCell _ _ _ _).trans (h6 q hq)⟩
    · obtain ⟨A, cp, hh, h1, hl, hx⟩ := hin g rfl q (List.mem_of_getElem? hi'')
      refine ⟨A, cp, hh, h1, hl, fun k' y hk' => ?_⟩
      obtain ⟨b2, o2, e, h3, h4, h5, h6⟩ := hx k' y hk'
      refine ⟨b2, o2, e, h3, h4, vat_other h5 ?_, fun q hq => (World.frozen?_setCell _ _ _ _).trans (h6 q hq)⟩
      subst e
      by_cases eb : b = b2
      · subst eb
        have hkl' := (List.getElem?_eq_some_iff.1 hk').1
        have := ha i' i q p hne hi'' hp b o2 o _ _ _ _ hh hp2 (by omega) (by omega)
        right
        omega
      · exact .inl eb
  · intro i1 i2 p1 p2 hne h1 h2
    have e1 : ∃ p1', ps[i1]? = some p1' ∧ p1'.2 = p1.2 := by
      rcases set_getElem? h1 with ⟨rfl, rfl⟩ | ⟨_, hk⟩
      · exact ⟨p, hp, rfl⟩
      · exact ⟨p1, hk, rfl⟩
    have e2 : ∃ p2', ps[i2]? = some p2' ∧ p2'.2 = p2.2 := by
      rcases set_getElem? h2 with ⟨rfl, rfl⟩ | ⟨_, hk⟩
      · exact ⟨p, hp, rfl⟩
      · exact ⟨p2, hk, rfl⟩
    obtain ⟨q1, hq1, hq1'⟩ := e1
    obtain ⟨q2, hq2, hq2'⟩ := e2
    rw [← hq1', ← hq2']
    exact ha i1 i2 q1 q2 hne hq1 hq2

/-- A value of a block is stored whole. -/
theorem Lay.store {base : Nat} {w : World} {m : List Blk} {g cap n : Nat} (h : Lay base w (.slice (some ⟨g, 0, none⟩) n cap) m) {i : Nat} {bk : Blk} (hi : m[i]? = some bk) {k : Nat} {x : Val} (y : Val) (hk : bk.cells[k]? = some x)
    {b o len c : Nat} (hc : w.cell? ⟨g, i * 5 + 4, none⟩ = some (.slice (some ⟨b, o, none⟩) len c)) :
    Lay base ((((w.setCell ⟨b, o + k * 4, none⟩ (.int .u8 y.k)).setCell ⟨b, o + k * 4 + 1, none⟩ (.int .i64 y.n)).setCell ⟨b, o + k * 4 + 2, none⟩ (.int .i64 y.b)).setCell ⟨b, o + k * 4 + 3, none⟩ (.int .i64 y.o))
      (.slice (some ⟨g, 0, none⟩) n cap) (m.set i { bk with cells := bk.cells.set k y }) := by
  have hil := (List.getElem?_eq_some_iff.1 hi).1
  have hkl := (List.getElem?_eq_some_iff.1 hk).1
  obtain ⟨b', o', c', hc', _, hb2, _⟩ := h.at hi hk
  rw [hc] at hc'
  injection hc' with hc'
  injection hc' with e1 e2 e3
  injection e1 with e1
  injection e1 with e4 e5
  subst e4 e5 e2 e3
  have hd : ∀ (w' : World) (p : Nat) (u : Value), (w'.setCell ⟨b, p, none⟩ u).cell? ⟨g, i * 5 + 4, none⟩ = w'.cell? ⟨g, i * 5 + 4, none⟩ := fun w' p u => World.cell?_setCell_other _ _ _ _ (fun e => hb2 (by injection e))
  have h1 := h.cell hi hk (x' := ⟨y.k, x.n, x.b, x.o⟩) hc (j := 0) (by omega) (u := .int .u8 y.k) rfl
  have h2 := h1.cell (bk := { bk with cells := bk.cells.set k ⟨y.k, x.n, x.b, x.o⟩ }) (k := k) (by rw [List.getElem?_set_self hil]) (x := ⟨y.k, x.n, x.b, x.o⟩) (by simp only [List.getElem?_set_self hkl]) (x' := ⟨y.k, y.n, x.b, x.o⟩) ((hd _ _ _).trans hc) (j := 1) (by omega) (u := .int .i64 y.n) rfl
  simp only [List.set_set] at h2
  have h3 := h2.cell (bk := { bk with cells := bk.cells.set k ⟨y.k, y.n, x.b, x.o⟩ }) (k := k) (by rw [List.getElem?_set_self hil]) (x := ⟨y.k, y.n, x.b, x.o⟩) (by simp only [List.getElem?_set_self hkl]) (x' := ⟨y.k, y.n, y.b, x.o⟩) ((hd _ _ _).trans ((hd _ _ _).trans hc)) (j := 2) (by omega) (u := .int .i64 y.b) rfl
  simp only [List.set_set] at h3
  have h4 := h3.cell (bk := { bk with cells := bk.cells.set k ⟨y.k, y.n, y.b, x.o⟩ }) (k := k) (by rw [List.getElem?_set_self hil]) (x := ⟨y.k, y.n, y.b, x.o⟩) (by simp only [List.getElem?_set_self hkl]) (x' := y) ((hd _ _ _).trans ((hd _ _ _).trans ((hd _ _ _).trans hc))) (j := 3) (by omega) (u := .int .i64 y.o) rfl
  simp only [List.set_set] at h4
  exact h4

end Go.Proofs.Ytmelamlngjflkaa

/- The contract of mem.Twin: what it answers is the same memory, in blocks of its own. Ahead of it: copy of elements of four cells; make; a region cut off. -/
import Derived.Test.YtmelamlngjflkaaRows
import Derived.WalkKit
import Derived.ProofKit
import Derived.OpenShut
import Derived.Below
import Derived.Outline
import Derived.LoopTactic
import Derived.Test.YtmelamlngjflkaaRep
import Derived.Test.YtmelamlngjflkaaU
import Derived.Lib.Hide
import Derived.WalkSpells
import Derived.Laws.IdiomCopy
import Derived.Laws.MakeOwn
import Derived.RegionTactic
import Derived.Deep.RegionWith
import Derived.Test.YtmelamlngjflkaaG
namespace Go.Proofs.Ytmelamlngjflkaa
open Go.ChangeShapes Go.WideShapes Go.ChangeAt Go.RowKit
set_option linter.unusedVariables false

theorem run_copy4 {P : Program} (w : World) (dT sT ty elem : TypeId) (b o dLen dCap : Nat) (sp : Option Addr) (sLen sCap : Nat) (cs : List Value)
    (hu : P.underlying dT = some (.slice elem)) (hs : (P.info? elem).map (·.size) = some 4) (hle : sLen ≤ dLen) (hn : cs.length = sLen * 4)
    (hsrc : 0 < sLen → ∃ a, sp = some a ∧ ∀ j v, cs[j]? = some v → w.cell? (a.add j) = some v) (hc : ∀ j, j < cs.length → (w.cell? ⟨b, o + j, none⟩).isSome = true) (hf : ∀ j, j < cs.length → w.frozen? ⟨b, o + j, none⟩ = false) (h1 : ∀ v ∈ cs, v.oneCell' = true) :
    (Builtin.copy_ #[dT, sT] ty #[.slice (some ⟨b, o, none⟩) dLen dCap, .slice sp sLen sCap]).run P w = .ok (goInt sLen) (w.setCells b o cs) := by
  have hmin : Nat.min sLen dLen = sLen := Nat.min_eq_left hle
  have hst := run_storeCells_cells (P := P) b o cs 0 w (by simpa using hc) (by simpa using hf) h1
  cases hq : P.info? elem with
  | none => simp [hq] at hs
  | some i =>
    have hi : i.size = 4 := by simpa [hq] using hs
    cases sp with
    | none =>
      have h0 : sLen = 0 := by
        rcases Nat.eq_zero_or_pos sLen with h | h
        · exact h
        · obtain ⟨a, e, _⟩ := hsrc h
          cases e
      subst h0
      obtain rfl : cs = [] := List.eq_nil_of_length_eq_zero (by omega)
      simp [Builtin.copy_, run_underlying hu, Builtin.lenOf, Builtin.firstCells, sizeOf, typeInfo, hq, storeCells, World.setCells]
    | some a =>
      have hsrc' : ∀ j v, cs[j]? = some v → w.cell? (a.add j) = some v := by
        intro j v hj
        have := (List.getElem?_eq_some_iff.1 hj).1
        obtain ⟨a', e, h⟩ := hsrc (by omega)
        injection e with e
        subst e
        exact h j v hj
      have hl := run_loadCells_list (P := P) w a cs hsrc'
      rw [hn] at hl
      simp [Builtin.copy_, run_underlying hu, Builtin.lenOf, Builtin.firstCells, sizeOf, typeInfo, hq, hi, hmin, hl, hst]

theorem wpList_copy4 {P : Program} {w : World} {ops : Array Oper} {rest : List Oper} {o : Oper} {a : Act} {Q : Exit → Act → World → Prop} (hgd : o.guard = none) (d s : Operand) (dT sT : TypeId)
    (ho : o.op = .call { callee := .builtin .copy, args := #[d, s], argTypes := #[dT, sT] }) (elem : TypeId) (hu : P.underlying dT = some (.slice elem)) (hsz : (P.info? elem).map (·.size) = some 4)
    (b off dLen dCap : Nat) (sp : Option Addr) (sLen sCap : Nat) (hd : a.eval d = .slice (some ⟨b, off, none⟩) dLen dCap) (hs : a.eval s = .slice sp sLen sCap) (hle : sLen ≤ dLen)
    (cs : List Value) (hn : cs.length = sLen * 4) (hsrc : 0 < sLen → ∃ a, sp = some a ∧ ∀ j v, cs[j]? = some v → w.cell? (a.add j) = some v)
    (hc : ∀ j, j < cs.length → (w.cell? ⟨b, off + j, none⟩).isSome = true) (hf : ∀ j, j < cs.length → w.frozen? ⟨b, off + j, none⟩ = false) (h1 : ∀ v ∈ cs, v.oneCell' = true)
    (h : wpList P ops Q rest (a.put o.dst (goInt sLen)) (w.setCells b off cs)) : wpList P ops Q (o :: rest) a w := by
  refine wpList_plain hgd fun K hK => ?_
  have hrun := run_copy4 (P := P) w dT sT o.type elem b off dLen dCap sp sLen sCap cs hu hsz hle hn hsrc hc hf h1
  unfold Oper.wp
  simp [execOp, ho, resolve, invoke, builtin, hd, hs, hrun, Result.andThen]
  exact hK _ _ h

theorem run_make4 {P : Program} (t e : TypeId) (i : TypeInfo) (z : Value) (ht : P.underlying t = some (.slice e)) (hi : P.info? e = some i) (hz : i.zero = some z) (hb : i.bytes = 32) (hs : i.size = 4) (n : Nat) (hn : n ≤ 200000) (w : World) :
    (Instr.makeSlice t (.int .i64 (n : Int)) (.int .i64 (n : Int))).run P w = .ok (.slice (some ⟨w.heap.size, 0, none⟩) n n) (w.alloc (.cells (madeCells z.cells (n * 4)) e)) := by
  have hr := run_make (P := P) w t e i z ht hi hz .i64 .i64 n n (by omega) (by omega) (by rw [hb]; omega) (by omega)
  simp only [Int.toNat_natCast] at hr
  rw [← hs]
  exact hr

/-- A region, cut off: what it leaves is told by R alone. -/
def Leaves (R : Act → World → Prop) : Exit → Act → World → Prop
  | .normal, a, w => R a w
  | _, _, _ => False
theorem wp_region_cut {P : Program} {id : Nat} {ops : Array Oper} {b : Bool} {Q : Exit → Act → World → Prop} {a : Act} {w : World} (R : Act → World → Prop)
    (h1 : (Code.region id ops b).wp P (Leaves R) a w) (h2 : ∀ a' w', R a' w' → Q .normal a' w') : (Code.region id ops b).wp P Q a w :=
  Code.wp_mono (fun e a w h => by
    cases e with
    | normal => exact h2 _ _ h
    | _ => exact (h : False).elim) h1
theorem wp_region_leaves {P : Program} {id : Nat} {ops : Array Oper} {b : Bool} {Q : Exit → Act → World → Prop} {a : Act} {w : World} (R : Act → Act → World → Prop)
    (h1 : (Code.region id ops b).wp P (Leaves (R a)) a w) (h2 : ∀ a' w', R a a' w' → Q .normal a' w') : (Code.region id ops b).wp P Q a w := wp_region_cut (R a) h1 h2

def sumL (m : List Blk) (k : Nat) : Nat := ((m.take k).map fun b => b.cells.length).sum
theorem sum_succ {m : List Blk} {k : Nat} (hk : k < m.length) : sumL m (k + 1) = sumL m k + m[k].cells.length := by
  unfold sumL
  rw [List.take_succ_eq_append_getElem hk, List.map_append, List.sum_append]
  simp
theorem sum_le {m : List Blk} (h : ∀ b ∈ m, b.cells.length ≤ 40) : ∀ k, k ≤ m.length → sumL m k ≤ 40 * k
  | 0, _ => by simp [sumL]
  | k + 1, hk => by
    have := sum_le h k (by omega)
    have h1 := h m[k] (List.getElem_mem (by omega))
    rw [sum_succ (by omega)]
    omega
theorem sum_mono {m : List Blk} {i j : Nat} (hij : i ≤ j) (hj : j ≤ m.length) : sumL m i ≤ sumL m j := by
  induction j with
  | zero => have : i = 0 := by omega
            subst this; exact Nat.le_refl _
  | succ j ih =>
    rcases Nat.lt_or_ge i (j + 1) with h | h
    · have := ih (by omega) (by omega)
      rw [sum_succ (by omega)]
      omega
    · have : i = j + 1 := by omega
      subst this
      exact Nat.le_refl _

theorem own_lower {w : World} {base base' : Nat} {e : TypeId} {size n : Nat} {v : Value} {xs : List Value} (h : w.ownsRow base e size v n xs) (hb : base' ≤ base) : w.ownsRow base' e size v n xs := by
  obtain ⟨h1, h2⟩ := h
  refine ⟨h1, ?_⟩
  rcases h2 with h2 | ⟨g, cap, cur, hv, hg, r⟩
  · exact .inl h2
  · exact .inr ⟨g, cap, cur, hv, Nat.le_trans hb hg, r⟩
theorem heap_alloc_at (w : World) (o : Obj) : (w.alloc o).heap[w.heap.size]? = some o := by
  show (w.heap.push o)[w.heap.size]? = some o
  simp

/-! ### The second loop: what holds at its k-th round -/
def TInv (base h : Nat) (w : World) (A : Option Addr) (c : Nat) (orig : List (Blk × Value)) (m : List Blk) (k : Nat) (wr : World) (all : Value) : Prop :=
  ∃ (ps : List (Blk × Value)) (o : Nat) (cur : Array Value), ps.map (·.1) = m ∧ wr.ownsRow base 39 5 (.slice A m.length c) m.length (ps.flatMap blkCells) ∧
    all = .slice (some ⟨h, o, none⟩) (sumL m m.length - sumL m k) (sumL m m.length - sumL m k) ∧ (0 < sumL m m.length - sumL m k → o = sumL m k * 4) ∧
    wr.heap[h]? = some (.cells cur 24 (0, 0)) ∧ cur.size = sumL m m.length * 4 ∧
    (∀ i p, ps[i]? = some p → i < k → ∃ o', p.2 = .slice (some ⟨h, o', none⟩) p.1.cells.length p.1.cells.length ∧ (0 < p.1.cells.length → o' = sumL m i * 4)) ∧
    (∀ i, k ≤ i → ps[i]? = orig[i]?) ∧ (∀ i b, m[i]? = some b → i < k → ∀ q x, b.cells[q]? = some x → VAt wr h (sumL m i * 4 + q * 4) x) ∧ Below w.heap.size w wr

theorem vat_cells {w : World} {b o q : Nat} {l : List Val} {x : Val} (h : ∀ j u, (l.flatMap valCells)[j]? = some u → w.cell? ⟨b, o + j, none⟩ = some u) (hq : l[q]? = some x) : VAt w b (o + q * 4) x := by
  have hg : ∀ j, j < 4 → ∀ u, (valCells x)[j]? = some u → w.cell? ⟨b, o + q * 4 + j, none⟩ = some u := by
    intro j hj u hu
    rw [Nat.add_assoc]
    refine h _ u ?_
    rw [flat_get valCells_len _ _ _ hj, hq]
    exact hu
  exact ⟨hg 0 (by omega) _ rfl, hg 1 (by omega) _ rfl, hg 2 (by omega) _ rfl, hg 3 (by omega) _ rfl⟩
theorem cells_vat {w : World} {g o : Nat} {l : List Val} (h : ∀ q x, l[q]? = some x → VAt w g (o + q * 4) x) : ∀ j u, (l.flatMap valCells)[j]? = some u → w.cell? ⟨g, o + j, none⟩ = some u := by
  intro j u hu
  obtain ⟨q, i, x, rfl, hq, hx⟩ := flat_at (by omega) valCells_len hu
  have hv := h q x hq
  rw [← Nat.add_assoc]
  match i, hx with
  | 0, hx => injection hx with hx; subst hx; exact hv.1
  | 1, hx => injection hx with hx; subst hx; exact hv.2.1
  | 2, hx => injection hx with hx; subst hx; exact hv.2.2.1
  | 3, hx => injection hx with hx; subst hx; exact hv.2.2.2
  | i + 4, hx => cases hx
theorem setCells_other (b : Nat) : ∀ (vs : List Value) (o : Nat) (w : World) (k : Nat), k ≠ b → (w.setCells b o vs).heap[k]? = w.heap[k]?
  | [], _, _, _, _ => rfl
  | v :: r, o, w, k, h => by rw [World.setCells, setCells_other b r (o + 1) _ k h, Below.heap_setCell _ _ _ _ h]
theorem setCells_same (b : Nat) {e : TypeId} : ∀ (vs : List Value) (o : Nat) (w : World) (cur : Array Value), w.heap[b]? = some (.cells cur e (0, 0)) → ∃ cur', (w.setCells b o vs).heap[b]? = some (.cells cur' e (0, 0)) ∧ cur'.size = cur.size
  | [], _, _, cur, h => ⟨cur, h, rfl⟩
  | v :: r, o, w, cur, h => by
    obtain ⟨cur', h1, h2⟩ := setCells_same b r (o + 1) (w.setCell ⟨b, o, none⟩ v) (cur.setIfInBounds o v) (heap_setCell_same w b o cur e v h)
    exact ⟨cur', h1, by rw [h2]; simp⟩
theorem setCells_os (b : Nat) : ∀ (vs : List Value) (o : Nat) (w : World), (w.setCells b o vs).os = w.os ∧ (w.setCells b o vs).tape = w.tape ∧ (w.setCells b o vs).output = w.output ∧ (w.setCells b o vs).heap.size = w.heap.size
  | [], _, _ => ⟨rfl, rfl, rfl, rfl⟩
  | v :: r, o, w => by
    obtain ⟨h1, h2, h3, h4⟩ := setCells_os b r (o + 1) (w.setCell ⟨b, o, none⟩ v)
    exact ⟨h1, h2, h3, by rw [World.setCells, h4]; simp⟩
theorem below_setCells {B : Nat} {w w1 : World} (h : Below B w w1) {b : Nat} (hb : B ≤ b) (vs : List Value) (o : Nat) : Below B w (w1.setCells b o vs) := by
  obtain ⟨h1, h2, h3, h4⟩ := setCells_os b vs o w1
  exact ⟨h1.trans h.os, h2.trans h.tape, h3.trans h.output, by rw [h4]; exact h.size, fun k hk => (setCells_other b vs o w1 k (by omega)).trans (h.block k hk)⟩
theorem row_form {w : World} {base n c : Nat} {A : Option Addr} {xs : List Value} (h : w.ownsRow base 39 5 (.slice A n c) n xs) (hn : 0 < n) : ∃ g, A = some ⟨g, 0, none⟩ ∧ base ≤ g ∧ g < w.heap.size ∧ ∃ cur, w.heap[g]? = some (.cells cur 39 (0, 0)) := by
  have hlt := h.lt
  rcases h.2 with ⟨hv, h0⟩ | ⟨g, cap, cur, hv, hb, hg, _⟩
  · omega
  · injection hv with e1 _ _
    subst e1
    exact ⟨g, rfl, hb, (hlt g rfl).2, cur, hg⟩

/-- What the round needs of its head. -/
theorem TInv.head {base h : Nat} {w wr : World} {A : Option Addr} {c k : Nat} {orig : List (Blk × Value)} {m : List Blk} {all : Value} (ht : TInv base h w A c orig m k wr all) (hk : k < m.length) {p : Blk × Value} (hp : orig[k]? = some p) :
    ∃ g o, A = some ⟨g, 0, none⟩ ∧ base ≤ g ∧ g ≠ h ∧ g < wr.heap.size ∧ h < wr.heap.size ∧ wr.cell? ⟨g, k * 5 + 4, none⟩ = some p.2 ∧ (∀ j, wr.frozen? ⟨g, j, none⟩ = false) ∧ m[k]? = some p.1 ∧
      all = .slice (some ⟨h, o, none⟩) (sumL m m.length - sumL m k) (sumL m m.length - sumL m k) ∧ (0 < sumL m m.length - sumL m k → o = sumL m k * 4) ∧
      (∀ j, wr.frozen? ⟨h, j, none⟩ = false) ∧ (∀ j, j < sumL m m.length * 4 → (wr.cell? ⟨h, j, none⟩).isSome = true) := by
  obtain ⟨ps, o, cur, hm, ho, hall, hoo, hh, hsz, _, horig, _, hb⟩ := ht
  obtain ⟨g, rfl, hbg, hg, cur2, hg2⟩ := row_form ho (by omega)
  have hpk : ps[k]? = some p := by rw [horig k (Nat.le_refl _), hp]
  have hl : ps.length = m.length := by rw [← hm, List.length_map]
  rw [← hl] at ho
  refine ⟨g, o, rfl, hbg, ?_, hg, ?_, (row_cell ho hpk (j := 4) (by omega)).trans rfl, fun j => ho.frozenAt j, ?_, hall, hoo, fun j => frozen_of_row wr h j cur 24 hh, fun j hj => ?_⟩
  · intro e
    subst e
    rw [hg2] at hh
    injection hh with hh
    injection hh with _ ht _
    cases ht
  · exact (Array.getElem?_eq_some_iff.1 hh).1
  · rw [← hm, List.getElem?_map, hpk]
    rfl
  · rw [cell_of_row wr h j cur 24 (0, 0) hh, Array.getElem?_eq_getElem (by omega)]
    rfl

/-- One round. -/
theorem TInv.step {base h : Nat} {w wr : World} {c k : Nat} {orig : List (Blk × Value)} {m : List Blk} {g o : Nat} {all' : Value} {ll : Nat} (ht : TInv base h w (some ⟨g, 0, none⟩) c orig m k wr (.slice (some ⟨h, o, none⟩) ll ll)) (hbase : w.heap.size ≤ base) (hbh : base ≤ h) (hgh : g ≠ h)
    {b : Blk} (hk : m[k]? = some b)
    (hall : ∃ o', all' = .slice (some ⟨h, o', none⟩) (sumL m m.length - sumL m (k + 1)) (sumL m m.length - sumL m (k + 1)) ∧ (0 < sumL m m.length - sumL m (k + 1) → o' = o + b.cells.length * 4)) :
    TInv base h w (some ⟨g, 0, none⟩) c orig m (k + 1) ((wr.setCells h o (b.cells.flatMap valCells)).drew.setCell ⟨g, k * 5 + 4, none⟩ (.slice (some ⟨h, o, none⟩) b.cells.length b.cells.length)) all' := by
  obtain ⟨ps, o0, cur, hm, ho, hav, hoo, hh, hsz, hold, horig, hvals, hb⟩ := ht
  injection hav with e1 e2 e3
  injection e1 with e1
  injection e1 with _ e1
  subst e1
  have hkl := (List.getElem?_eq_some_iff.1 hk).1
  have hkb : m[k] = b := (List.getElem?_eq_some_iff.1 hk).2
  have hs := sum_succ hkl
  rw [hkb] at hs
  have hmono := sum_mono (m := m) (i := k + 1) (j := m.length) (by omega) (Nat.le_refl _)
  obtain ⟨o', hall1, hall2⟩ := hall
  have hl : ps.length = m.length := by rw [← hm, List.length_map]
  obtain ⟨p, hp⟩ : ∃ p, ps[k]? = some p := ⟨_, List.getElem?_eq_getElem (by omega)⟩
  have hp1 : p.1 = b := by
    rw [← hm, List.getElem?_map, hp] at hk
    injection hk
  obtain ⟨cur', hcur', hcs'⟩ := setCells_same h (b.cells.flatMap valCells) o wr cur hh
  have hB1 : Below w.heap.size w (wr.setCells h o (b.cells.flatMap valCells)) := below_setCells hb (by omega) _ _
  have hgb : base ≤ g := by
    obtain ⟨g', e, hb', _⟩ := row_form ho (by omega)
    injection e with e
    injection e with e
    subst e
    exact hb'
  refine ⟨ps.set k (b, .slice (some ⟨h, o, none⟩) b.cells.length b.cells.length), o', cur', ?_, ?_, hall1, ?_, ?_, ?_, ?_, ?_, ?_, ?_⟩
  · rw [List.map_set, hm]
    show m.set k b = m
    rw [← hkb, List.set_getElem_self]
  · have h1 : (wr.setCells h o (b.cells.flatMap valCells)).drew.ownsRow base 39 5 (.slice (some ⟨g, 0, none⟩) m.length c) m.length (ps.flatMap blkCells) := by
      obtain ⟨q1, q2, q3, q4⟩ := setCells_os h (b.cells.flatMap valCells) o wr
      exact ho.kept (row := some h) ⟨q1, q2, q3, by show _ ≤ (wr.setCells h o _).heap.size; omega, fun q _ hne => setCells_other h _ o wr q (fun e => hne (by rw [e]))⟩ (.inr (by simpa [Value.ownBlock] using hgh))
    have h2 := (h1.stored (k * 5 + 4) (.slice (some ⟨h, o, none⟩) b.cells.length b.cells.length)).1
    rwa [flat_set hp (by omega) (p' := (b, .slice (some ⟨h, o, none⟩) b.cells.length b.cells.length)) (by rw [← hp1]; rfl)] at h2
  · intro h0
    have := hoo (by omega)
    have := hall2 h0
    rw [hs]
    omega
  · rw [Below.heap_setCell _ _ _ _ (fun e => hgh e.symm)]
    exact hcur'
  · omega
  · intro i q hq hi
    rcases set_getElem? hq with ⟨rfl, rfl⟩ | ⟨hne, hq'⟩
    · exact ⟨o, rfl, fun h0 => hoo (by have h1 : 0 < b.cells.length := h0; omega)⟩
    · exact hold i q hq' (by omega)
  · intro i hi
    rw [List.getElem?_set_ne (by omega)]
    exact horig i (by omega)
  · intro i b' hb' hi q x hq
    have hql := (List.getElem?_eq_some_iff.1 hq).1
    have cells_g : ∀ y, ((wr.setCells h o (b.cells.flatMap valCells)).drew.setCell ⟨g, k * 5 + 4, none⟩ (.slice (some ⟨h, o, none⟩) b.cells.length b.cells.length)).cell? ⟨h, y, none⟩ = (wr.setCells h o (b.cells.flatMap valCells)).cell? ⟨h, y, none⟩ := fun y =>
      World.cell?_setCell_other _ _ _ _ (fun e => hgh (by injection e))
    by_cases hik : i = k
    · subst hik
      rw [hk] at hb'
      injection hb' with hb'
      subst hb'
      have ho' : o = sumL m i * 4 := hoo (by omega)
      rw [← ho']
      refine vat_cells (l := b.cells) (fun j u hu => ?_) hq
      rw [cells_g]
      have hjl := (List.getElem?_eq_some_iff.1 hu).1
      rw [flat_len valCells_len] at hjl
      have := World.cell?_setCells_in h (b.cells.flatMap valCells) o wr (fun j hj => by
        rw [flat_len valCells_len] at hj
        rw [cell_of_row wr h (o + j) cur 24 (0, 0) hh, Array.getElem?_eq_getElem (by omega)]
        rfl) j (by rw [flat_len valCells_len]; exact hjl)
      rw [this]
      exact (List.getElem?_eq_some_iff.1 hu).2 ▸ rfl
    · have hv := hvals i b' hb' (by omega) q x hq
      have hil := (List.getElem?_eq_some_iff.1 hb').1
      have hib : m[i] = b' := (List.getElem?_eq_some_iff.1 hb').2
      have hs2 := sum_succ hil
      rw [hib] at hs2
      have hm2 := sum_mono (m := m) (i := i + 1) (j := k) (by omega) (by omega)
      have hout : ∀ j, j < 4 → (wr.setCells h o (b.cells.flatMap valCells)).cell? ⟨h, sumL m i * 4 + q * 4 + j, none⟩ = wr.cell? ⟨h, sumL m i * 4 + q * 4 + j, none⟩ := by
        intro j hj
        by_cases h0 : b.cells.length = 0
        · have : b.cells = [] := List.eq_nil_of_length_eq_zero h0
          rw [this]
          rfl
        · have := hoo (by omega)
          exact World.cell?_setCells_out h _ o wr _ (fun _ _ => .inl (by show sumL m i * 4 + q * 4 + j < o; omega))
      exact ⟨(cells_g _).trans ((hout 0 (by omega)).trans hv.1), (cells_g _).trans ((hout 1 (by omega)).trans hv.2.1), (cells_g _).trans ((hout 2 (by omega)).trans hv.2.2.1), (cells_g _).trans ((hout 3 (by omega)).trans hv.2.2.2)⟩
  · exact hB1.drew.setCell (by show w.heap.size ≤ g; omega) _

/-- The end. -/
theorem TInv.lay {base h : Nat} {w wr : World} {A : Option Addr} {c : Nat} {orig : List (Blk × Value)} {m : List Blk} {all : Value} (ht : TInv base h w A c orig m m.length wr all) (hbh : base ≤ h) (hcx : ∀ b ∈ m, b.cells.length ≤ 40) : Lay base wr (.slice A m.length c) m := by
  obtain ⟨ps, o0, cur, hm, ho, _, _, hh, hsz, hold, _, hvals, hb⟩ := ht
  have hl : ps.length = m.length := by rw [← hm, List.length_map]
  refine ⟨ps, hm, by rw [hl]; exact ho, ?_, ?_⟩
  · intro g hg p hp
    obtain ⟨i, hi⟩ := List.mem_iff_getElem?.1 hp
    have hil := (List.getElem?_eq_some_iff.1 hi).1
    obtain ⟨o', hp2, ho'⟩ := hold i p hi (by omega)
    have hmi : m[i]? = some p.1 := by rw [← hm, List.getElem?_map, hi]; rfl
    have hc := hcx p.1 (List.mem_of_getElem? hmi)
    obtain ⟨g2, rfl, _, _, cur2, hg2⟩ := row_form ho (by omega)
    obtain rfl : g2 = g := by simpa [Value.ownBlock] using hg
    refine ⟨_, _, hp2, Nat.le_refl _, by omega, fun k x hk => ?_⟩
    have hkl := (List.getElem?_eq_some_iff.1 hk).1
    have e := ho' (by omega)
    refine ⟨h, o', rfl, hbh, ?_, ?_, fun j _ => frozen_of_row wr h _ cur 24 hh⟩
    · intro e2
      subst e2
      rw [hg2] at hh
      injection hh with hh
      injection hh with _ ht _
      cases ht
    · rw [e]
      exact hvals i p.1 hmi (by omega) k x hk
  · intro i j p q hne hi hj b o o' n n' c c' e1 e2 h0 h0'
    have hil := (List.getElem?_eq_some_iff.1 hi).1
    have hjl := (List.getElem?_eq_some_iff.1 hj).1
    obtain ⟨a1, hp2, ho1⟩ := hold i p hi (by omega)
    obtain ⟨a2, hq2, ho2⟩ := hold j q hj (by omega)
    rw [hp2] at e1
    rw [hq2] at e2
    injection e1 with x1 x2 _
    injection x1 with x1
    injection x1 with _ x1
    injection e2 with y1 y2 _
    injection y1 with y1
    injection y1 with _ y1
    subst x1 x2 y1 y2
    have hmi : m[i]? = some p.1 := by rw [← hm, List.getElem?_map, hi]; rfl
    have hmj : m[j]? = some q.1 := by rw [← hm, List.getElem?_map, hj]; rfl
    have si := sum_succ (m := m) (k := i) (by omega)
    have sj := sum_succ (m := m) (k := j) (by omega)
    rw [(List.getElem?_eq_some_iff.1 hmi).2] at si
    rw [(List.getElem?_eq_some_iff.1 hmj).2] at sj
    have e1 := ho1 h0
    have e2 := ho2 h0'
    rcases Nat.lt_or_gt_of_ne hne with hlt | hlt
    · have := sum_mono (m := m) (i := i + 1) (j := j) (by omega) (by omega)
      left
      omega
    · have := sum_mono (m := m) (i := j + 1) (j := i) (by omega) (by omega)
      right
      omega

end Go.Proofs.Ytmelamlngjflkaa

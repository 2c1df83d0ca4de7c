/- The contract of out: of each point the points to which its arrows lead, in rows of the call's own. -/
import Derived.Test.YtkmbjpgpkgeiaaaRows
import Derived.WalkKit
import Derived.ProofKit
import Derived.OpenShut
import Derived.Below
import Derived.Outline
import Derived.LoopTactic
import Derived.Lib.Hide
import Derived.WalkSpells
import Derived.RegionTactic
import Derived.BigRegion
import Derived.Deep.QuietTactic
import Derived.BigQuiet
import Derived.Deep.RegionWith
import Derived.Deep.RegionLaw
import Derived.Deep.AppendLies
import Derived.Laws.MakeOwn
import Derived.Test.YtkmbjpgpkgeiaaaA2
namespace Go.Proofs.Ytkmbjpgpkgeiaaa
open Go.ChangeShapes Go.WideShapes Go.ChangeAt Go.RowKit
set_option linter.unusedVariables false

/-! ### A block that is known whole -/
def Row (w : World) (g : Nat) (e : TypeId) (xs : List Value) : Prop := w.heap[g]? = some (.cells xs.toArray e (0, 0))
section
variable {w w1 : World} {g : Nat} {e : TypeId} {xs : List Value}
theorem Row.lt (h : Row w g e xs) : g < w.heap.size := (Array.getElem?_eq_some_iff.1 h).1
theorem Row.cell (h : Row w g e xs) (j : Nat) : w.cell? ⟨g, j, none⟩ = xs[j]? := by
  rw [cell_of_row w g j xs.toArray e (0, 0) h]
  simp
theorem Row.frozen (h : Row w g e xs) (j : Nat) : w.frozen? ⟨g, j, none⟩ = false := by
  unfold Row at h
  simp [World.frozen?, h]
theorem Row.new (w : World) (e : TypeId) (xs : List Value) : Row (w.alloc (.cells xs.toArray e)) w.heap.size e xs := heap_alloc_new w _
theorem Row.set (h : Row w g e xs) (j : Nat) (u : Value) : Row (w.setCell ⟨g, j, none⟩ u) g e (xs.set j u) := by
  unfold Row at h ⊢
  simp [World.setCell, Array.getElem?_modify, h]
theorem Row.far (h : Row w g e xs) {b : Nat} (hb : g ≠ b) (j : Nat) (u : Value) : Row (w.setCell ⟨b, j, none⟩ u) g e xs := (Below.heap_setCell w ⟨b, j, none⟩ u g hb).trans h
theorem Row.below {B : Nat} (h : Row w g e xs) (hb : Below B w w1) (hg : g < B) : Row w1 g e xs := (hb.block g hg).trans h
theorem Row.grown {row : Option Nat} (h : Row w g e xs) (hb : w.grownBy w1 row) (hg : some g ≠ row) : Row w1 g e xs := (hb.block g h.lt hg).trans h
theorem Row.get (h : Row w g e xs) {j : Nat} {u : Value} (hu : xs[j]? = some u) : w.cell? ⟨g, j, none⟩ = some u := (h.cell j).trans hu
end
theorem own_below {w w1 : World} {base : Nat} {e : TypeId} {size n : Nat} {v : Value} {xs : List Value} (h : w.ownsRow base e size v n xs) (hb : Below w.heap.size w w1) : w1.ownsRow base e size v n xs :=
  h.kept (row := none) ⟨hb.os, hb.tape, hb.output, hb.size, fun i hi _ => hb.block i hi⟩ (by cases v.ownBlock <;> simp)
theorem own_set {w : World} {base : Nat} {e : TypeId} {size n : Nat} {v : Value} {xs : List Value} (h : w.ownsRow base e size v n xs) {b j : Nat} (hb : v.ownBlock ≠ some b) (u : Value) : (w.setCell ⟨b, j, none⟩ u).ownsRow base e size v n xs :=
  h.kept (row := some b) ⟨rfl, rfl, rfl, by simp [World.setCell], fun q hq hne => Below.heap_setCell _ _ _ _ (fun e => hne (by rw [e]))⟩ (.inr hb)

theorem run_mk {P : Program} {t e : TypeId} {z : Value} {b : Nat} (ht : P.underlying t = some (.slice e)) (hi : (P.info? e).map (fun i => (i.zero, i.size, i.bytes)) = some (some z, 1, b)) (hz : z.cells = #[z]) (hb : b ≤ 24) (n : Nat) (hn : n ≤ 20000) (w : World) :
    (Instr.makeSlice t (.int .i64 (n : Int)) (.int .i64 (n : Int))).run P w = .ok (.slice (some ⟨w.heap.size, 0, none⟩) n n) (w.alloc (.cells (List.replicate n z).toArray e)) := by
  obtain ⟨i, hi, hh⟩ := Option.map_eq_some_iff.1 hi
  simp only [Prod.mk.injEq] at hh
  obtain ⟨h0, h1, h2⟩ := hh
  have hm : (b : Int) * n ≤ 480000 := by
    have h3 : b * n ≤ 480000 := Nat.mul_le_mul hb hn
    rw [← Int.natCast_mul]
    omega
  have hr := run_make (P := P) w t e i z ht hi h0 .i64 .i64 n n (by omega) (by omega) (by rw [h2]; omega) (by omega)
  simp only [Int.toNat_natCast, h1, Nat.mul_one, hz] at hr
  rw [hr]
  have : madeCells #[z] n = (List.replicate n z).toArray := by
    rw [← toList_madeCells_one z n]
  rw [this]

/-! ### Rows of the code's own -/
/-- Block g holds a header for each list, and each list lies in a block of its own from base on. -/
def RowsOwn (base g : Nat) (w : World) (xss : List (List Int)) : Prop :=
  g < base ∧ ∃ hs : List Value, hs.length = xss.length ∧ Row w g 25 hs ∧ ∀ (i : Nat) (h : Value) (xs : List Int), hs[i]? = some h → xss[i]? = some xs → w.ownsRow base 3 1 h xs.length (xs.map iv) ∧ ∀ (j : Nat) (h' : Value), j ≠ i → hs[j]? = some h' → ∀ q, h.ownBlock = some q → h'.ownBlock ≠ some q

theorem RowsOwn.get {base g : Nat} {w : World} {xss : List (List Int)} (hr : RowsOwn base g w xss) {a : Nat} {xs : List Int} (ha : xss[a]? = some xs) :
    ∃ A c, w.cell? ⟨g, a, none⟩ = some (.slice A xs.length c) ∧ w.ownsRow base 3 1 (.slice A xs.length c) xs.length (xs.map iv) ∧ w.frozen? ⟨g, a, none⟩ = false ∧ g < w.heap.size ∧ (Value.slice A xs.length c).ownBlock ≠ some g := by
  obtain ⟨hgb, hs, hl, hrow, hx⟩ := hr
  have hal := (List.getElem?_eq_some_iff.1 ha).1
  obtain ⟨h, hh⟩ : ∃ h, hs[a]? = some h := ⟨_, List.getElem?_eq_getElem (by omega)⟩
  have ho := (hx a h xs hh ha).1
  obtain ⟨A, c, rfl⟩ := own_slice ho
  exact ⟨A, c, hrow.get hh, ho, hrow.frozen a, hrow.lt, fun e => by have := own_base ho g e; omega⟩

theorem RowsOwn.below {base g : Nat} {w w1 : World} {xss : List (List Int)} (hr : RowsOwn base g w xss) (hb : Below w.heap.size w w1) : RowsOwn base g w1 xss := by
  obtain ⟨hgb, hs, hl, hrow, hx⟩ := hr
  exact ⟨hgb, hs, hl, hrow.below hb hrow.lt, fun i h xs h1 h2 => ⟨own_below (hx i h xs h1 h2).1 hb, (hx i h xs h1 h2).2⟩⟩

/-- One element more at the end of one row. -/
theorem RowsOwn.push {base g : Nat} {w W w6 : World} {xss : List (List Int)} (hr : RowsOwn base g w xss) (hW : Below w.heap.size w W) {a : Nat} {xs : List Int} {b : Int} {h v : Value} (ha : xss[a]? = some xs) (hc : w.cell? ⟨g, a, none⟩ = some h)
    (hrow : w6.ownsRow base 3 1 v (xs.length + 1) (xs.map iv ++ [iv b])) (hg : W.grownBy w6 h.ownBlock) (hat : v.ownBlock = h.ownBlock ∨ v.ownBlock = some W.heap.size) (u : World) (hu : Below w6.heap.size w6 u) : RowsOwn base g (u.setCell ⟨g, a, none⟩ v) (xss.set a (xs ++ [b])) := by
  obtain ⟨hgb, hs, hl, hro, hx⟩ := hr
  have hro1 := (hro.below hW hro.lt)
  have hal := (List.getElem?_eq_some_iff.1 ha).1
  obtain ⟨h0, hh⟩ : ∃ h, hs[a]? = some h := ⟨_, List.getElem?_eq_getElem (by omega)⟩
  have e0 : h0 = h := by
    have := hro.get hh
    rw [hc] at this
    injection this with this
    exact this.symm
  subst e0
  have hown := (hx a h0 xs hh ha).1
  have hgne : h0.ownBlock ≠ some g := fun e => by have := own_base hown g e; omega
  have hvb : v.ownBlock ≠ some g := fun e => by have := own_base hrow g e; omega
  have hro6 : Row w6 g 25 hs := hro1.grown hg (fun e => hgne e.symm)
  have hrou : Row u g 25 hs := hro6.below hu hro6.lt
  refine ⟨hgb, hs.set a v, by simp [hl], hrou.set a v, fun i h' ys hi hy => ?_⟩
  by_cases e : i = a
  · subst e
    rw [List.getElem?_set_self (by omega)] at hi hy
    injection hi with hi
    injection hy with hy
    subst hi hy
    refine ⟨?_, fun j h2 hj hj2 q hq => ?_⟩
    · have := own_set (own_below hrow hu) hvb (j := i) v
      simpa using this
    · rw [List.getElem?_set_ne (Ne.symm hj)] at hj2
      obtain ⟨zs, hz⟩ : ∃ zs, xss[j]? = some zs := ⟨_, List.getElem?_eq_getElem (by have := (List.getElem?_eq_some_iff.1 hj2).1; omega)⟩
      have h2o := (hx j h2 zs hj2 hz).1
      rcases hat with hat | hat
      · rw [hat] at hq
        exact (hx i h0 xs hh ha).2 j h2 hj hj2 q hq
      · rw [hat] at hq
        injection hq with hq
        subst hq
        intro e2
        have := (h2o.lt _ e2).2
        have := hW.size
        omega
  · rw [List.getElem?_set_ne (Ne.symm e)] at hi hy
    obtain ⟨ho, hd⟩ := hx i h' ys hi hy
    have hne : h'.ownBlock = none ∨ h'.ownBlock ≠ h0.ownBlock := by
      cases eq : h'.ownBlock with
      | none => exact .inl rfl
      | some q => exact .inr (fun e2 => hd a h0 (Ne.symm e) hh q eq e2.symm)
    have ho6 := (own_below ho hW).kept hg hne
    have hgn : h'.ownBlock ≠ some g := fun e => by have := own_base ho g e; omega
    refine ⟨own_set (own_below ho6 hu) hgn v, fun j h2 hj hj2 q hq => ?_⟩
    by_cases ej : j = a
    · subst ej
      rw [List.getElem?_set_self (by omega)] at hj2
      injection hj2 with hj2
      subst hj2
      intro e3
      rcases hat with hat | hat
      · rw [hat] at e3
        exact hd j h0 hj hh q hq e3
      · rw [hat] at e3
        injection e3 with e3
        subst e3
        have := (ho.lt _ hq).2
        have := hW.size
        omega
    · rw [List.getElem?_set_ne (Ne.symm ej)] at hj2
      exact hd j h2 hj hj2 q hq

theorem RowsOwn.reads {base g : Nat} {w : World} {xss : List (List Int)} (hr : RowsOwn base g w xss) (hn : xss.length ≤ 9223372036854775807) : IssAt w (.slice (some ⟨g, 0, none⟩) xss.length xss.length) xss := by
  obtain ⟨hgb, hs, hl, hro, hx⟩ := hr
  refine ⟨_, _, rfl, hn, fun k xs hk => ?_⟩
  have hkl := (List.getElem?_eq_some_iff.1 hk).1
  obtain ⟨h, hh⟩ : ∃ h, hs[k]? = some h := ⟨_, List.getElem?_eq_getElem (by omega)⟩
  exact ⟨g, 0, h, rfl, by rw [Nat.zero_add]; exact hro.get hh, IsAt.own (hx k h xs hh hk).1⟩

/-! ### Arrows as pairs of plain numbers -/
def castP (p : Nat × Nat) : Int × Int := ((p.1 : Int), (p.2 : Int))
def adjI (L : List (Nat × Nat)) (a : Nat) : List Int := (L.filter (fun p => p.1 == a)).map (fun p => (p.2 : Int))
def rowsI (n : Nat) (L : List (Nat × Nat)) : List (List Int) := (List.range n).map (adjI L)
theorem rowsI_len (n : Nat) (L : List (Nat × Nat)) : (rowsI n L).length = n := by simp [rowsI]
theorem rowsI_get {n : Nat} {L : List (Nat × Nat)} {a : Nat} (h : a < n) : (rowsI n L)[a]? = some (adjI L a) := by simp [rowsI, h]
theorem adjI_len (L : List (Nat × Nat)) (a : Nat) : (adjI L a).length ≤ L.length := by simp [adjI]; exact List.length_filter_le _ _
theorem rowsI_more {n : Nat} {L : List (Nat × Nat)} {p : Nat × Nat} (h : p.1 < n) : rowsI n (L ++ [p]) = (rowsI n L).set p.1 (adjI L p.1 ++ [(p.2 : Int)]) := by
  apply List.ext_getElem?
  intro i
  by_cases hi : i < n
  · rw [rowsI_get hi]
    by_cases e : i = p.1
    · subst e
      rw [List.getElem?_set_self (by rw [rowsI_len]; exact hi)]
      simp [adjI, List.filter_append]
    · rw [List.getElem?_set_ne (Ne.symm e), rowsI_get hi]
      have : (p.1 == i) = false := by simpa using Ne.symm e
      simp [adjI, List.filter_append, this]
  · rw [List.getElem?_eq_none (by rw [rowsI_len]; omega), List.getElem?_eq_none (by rw [List.length_set, rowsI_len]; omega)]
theorem rowsI_nil (n : Nat) : rowsI n [] = List.replicate n [] := by
  apply List.ext_getElem?
  intro i
  by_cases hi : i < n
  · rw [rowsI_get hi, List.getElem?_replicate, if_pos hi]; rfl
  · rw [List.getElem?_eq_none (by rw [rowsI_len]; omega), List.getElem?_eq_none (by simp; omega)]

theorem rows_push {B g n k a b m : Nat} {L : List (Nat × Nat)} {w W w6 : World} {h : Value} {g6 cap : Nat} (hr : RowsOwn B g w (rowsI n (L.take k))) (hW : Below w.heap.size w W) (hp : L[k]? = some (a, b)) (ha : a < n) (hm : (adjI (L.take k) a).length = m)
    (hc : w.cell? ⟨g, a, none⟩ = some h) (hrow : w6.ownsRow B 3 1 (.slice (some ⟨g6, 0, none⟩) (m + 1) cap) (m + 1) ((adjI (L.take k) a).map iv ++ [iv b])) (hg : W.grownBy w6 h.ownBlock) (hat : h.ownBlock = some g6 ∨ g6 = W.heap.size) (u : World) (hu : Below w6.heap.size w6 u) :
    RowsOwn B g (u.setCell ⟨g, a, none⟩ (.slice (some ⟨g6, 0, none⟩) (m + 1) cap)) (rowsI n (L.take (k + 1))) := by
  subst hm
  obtain ⟨hk, e⟩ := List.getElem?_eq_some_iff.1 hp
  rw [List.take_succ_eq_append_getElem hk, e, rowsI_more ha]
  exact hr.push hW (rowsI_get ha) hc hrow hg (by
    rcases hat with h | h
    · exact .inl (by rw [h]; rfl)
    · exact .inr (by rw [h]; rfl)) u hu
theorem rows_grown {w wr W w6 : World} {h : Value} {m : Nat} {xs : List Value} (hb : Below w.heap.size w wr) (hW : Below wr.heap.size wr W) (ho : wr.ownsRow (w.heap.size + 1) 3 1 h m xs) (hg : W.grownBy w6 h.ownBlock) : Below w.heap.size w w6 :=
  (hb.trans (hW.mono hb.size)).grown hg (Nat.le_trans hb.size hW.size) (fun q hq => by have := own_base ho q hq; omega)

theorem rows_all {n k a b m : Nat} {L : List (Nat × Nat)} {w wr W w6 : World} {h : Value} {g6 cap : Nat} (hr : RowsOwn (w.heap.size + 1) w.heap.size wr (rowsI n (L.take k))) (hb : Below w.heap.size w wr) (ho : wr.ownsRow (w.heap.size + 1) 3 1 h m ((adjI (L.take k) a).map iv)) (hp : L[k]? = some (a, b)) (ha : a < n) (hm : (adjI (L.take k) a).length = m)
    (hc : wr.cell? ⟨w.heap.size, a, none⟩ = some h) (hf : wr.frozen? ⟨w.heap.size, a, none⟩ = false) (hz : w.heap.size < wr.heap.size) (hne : h.ownBlock ≠ some w.heap.size)
    (hrow : w6.ownsRow (w.heap.size + 1) 3 1 (.slice (some ⟨g6, 0, none⟩) (m + 1) cap) (m + 1) ((adjI (L.take k) a).map iv ++ [iv b])) (hg : W.grownBy w6 h.ownBlock) (hat : h.ownBlock = some g6 ∨ g6 = W.heap.size) (hW : Below wr.heap.size wr W) (hx0 : W.cell? ⟨wr.heap.size, 0, none⟩ = some (.int .i64 a)) (hx1 : W.cell? ⟨wr.heap.size, 1, none⟩ = some (.int .i64 b)) (hws : wr.heap.size < W.heap.size) :
    w6.cell? ⟨w.heap.size, a, none⟩ = some h ∧ w6.frozen? ⟨w.heap.size, a, none⟩ = false ∧ Hid (∀ u : World, Below w6.heap.size w6 u → RowsOwn (w.heap.size + 1) w.heap.size (u.setCell ⟨w.heap.size, a, none⟩ (.slice (some ⟨g6, 0, none⟩) (m + 1) cap)) (rowsI n (L.take (k + 1)))) ∧ Hid (Below w.heap.size w w6) ∧ w.heap.size < w6.heap.size ∧ w6.cell? ⟨wr.heap.size, 0, none⟩ = some (.int .i64 a) ∧ w6.cell? ⟨wr.heap.size, 1, none⟩ = some (.int .i64 b) ∧ wr.heap.size < w6.heap.size :=
  ⟨hg.cell (cell_below hW hc) (fun e => hne e.symm), (hg.frozen_far ⟨w.heap.size, a, none⟩ (Nat.lt_of_lt_of_le hz hW.size) (fun e => hne e.symm)).trans ((hW.frozen (p := ⟨w.heap.size, a, none⟩) hz).trans hf),
    fun u hu => rows_push hr hW hp ha hm hc hrow hg hat u hu, rows_grown hb hW ho hg, Nat.lt_of_lt_of_le (Nat.lt_of_lt_of_le hz hW.size) hg.size,
    hg.cell hx0 (fun e => Nat.lt_irrefl _ (ho.lt wr.heap.size e.symm).2), hg.cell hx1 (fun e => Nat.lt_irrefl _ (ho.lt wr.heap.size e.symm).2), Nat.lt_of_lt_of_le hws hg.size⟩

def OutP (n : Nat) (L : List (Nat × Nat)) (w : World) (e : Ending) (w' : World) : Prop := ∃ g : Nat, e = .returned (.slice (some ⟨g, 0, none⟩) n n) ∧ RowsOwn (w.heap.size + 1) g w' (rowsI n L) ∧ w.heap.size ≤ g ∧ Below w.heap.size w w'

theorem rows_made {w : World} {n : Nat} : RowsOwn (w.heap.size + 1) w.heap.size (w.alloc (.cells (List.replicate n (Value.slice none 0 0)).toArray 25)) (rowsI n []) := by
  rw [rowsI_nil]
  refine ⟨by omega, List.replicate n (Value.slice none 0 0), by simp, Row.new _ _ _, fun i h xs hh hx => ?_⟩
  rw [List.getElem?_replicate] at hh hx
  split at hh
  · rename_i hi
    rw [if_pos hi] at hx
    injection hh with hh
    injection hx with hx
    subst hh hx
    exact ⟨World.ownsRow_nil _ _ _ _, fun j h' _ _ q hq => by simp [Value.ownBlock] at hq⟩
  · cases hh

set_option maxHeartbeats 4000000 in
theorem out_any {L : List (Nat × Nat)} {v : Value} (n : Nat) (w : World) (hl : EsAt w v (L.map castP)) (hn : n ≤ 1000) (hL : L.length ≤ 10000) (hv : ∀ p ∈ L, p.1 < n ∧ p.2 < n) : Calls Try.prog 22 #[.int .i64 n, v] w (OutP n L w) := by
  have hl' := hl
  obtain ⟨A, c, rfl, hmx, hq⟩ := hl'
  rw [List.length_map] at hmx ⊢
  have HL := Lib.hid hl; clear hl
  have HV := Lib.hid hv; clear hv
  clear hq
  obtain ⟨i0, hi, hz0, hz1, hz2⟩ := info_parts info3
  have HI := Lib.hid hi; clear hi
  have HZ0 := Lib.hid hz0; clear hz0
  have HZ1 := Lib.hid hz1; clear hz1
  have HZ2 := Lib.hid hz2; clear hz2
  have hmk := fun (W : World) => run_mk (P := Try.prog) Try.underlying43 info25 rfl (by decide) n (by omega) W
  go_enter Try.func22, Try.ntmps22
  go_wp2_with fail
  clear hmk
  have R0 : Hid (RowsOwn (w.heap.size + 1) w.heap.size (w.alloc (.cells (List.replicate n (Value.slice none 0 0)).toArray 25)) (rowsI n (L.take 0))) := rows_made
  go_loopw [7, 12] (fun _ i wr => ∃ k : Nat, k ≤ L.length ∧ i = .int .i64 k ∧ RowsOwn (w.heap.size + 1) w.heap.size wr (rowsI n (L.take k)) ∧ Below w.heap.size w wr) (fun _ i _ => L.length - (intOf i).toNat)
  case atStart => exact ⟨0, Nat.zero_le _, rfl, R0.out, (Below.refl _ _).alloc (Nat.le_refl _) _⟩
  case round =>
    obtain ⟨k, hk, rfl, hr, hb⟩ := hrel
    have HB := Lib.hid hb; clear hb
    have HR := Lib.hid hr; clear hr
    by_cases hlt : k < L.length
    · have HLT := Lib.hid hlt
      obtain ⟨p, hp⟩ : ∃ p, L[k]? = some p := ⟨_, List.getElem?_eq_getElem hlt⟩
      have HP := Lib.hid hp
      have hpv := HV.out p (List.mem_of_getElem? hp)
      obtain ⟨ga, oa, rfl, hga, q0, q1⟩ := HL.out.get (i := k) (x := castP p) (by rw [List.getElem?_map, hp]; rfl)
      have hgar : ga < wr.heap.size := Nat.lt_of_lt_of_le hga HB.out.size
      replace q0 := cell_below HB.out q0
      replace q1 := cell_below HB.out q1
      simp only [castP] at q0 q1
      obtain ⟨a, b⟩ := p
      obtain ⟨han, hbn⟩ := hpv
      simp only at han hbn q0 q1
      clear hp
      obtain ⟨Ah, ch, u0, hown, g0, z0, hne⟩ := HR.out.get (rowsI_get (L := L.take k) han)
      have hal := Nat.le_trans (adjI_len (L.take k) a) (List.length_take_le _ _)
      have HOWN := Lib.hid hown
      obtain ⟨m, hm⟩ : ∃ m, (adjI (L.take k) a).length = m := ⟨_, rfl⟩
      have HM := Lib.hid hm
      rw [hm] at u0 hne hal
      have HNE := Lib.hid hne
      clear hown hm hne
      have HLN : Hid (m + 1 ≤ maxLen ∧ (m + 1) * 8 ≤ 140737488355328) := by unfold Hid maxLen; omega
      have HO : Hid (wr.ownsRow (w.heap.size + 1) 3 1 (.slice Ah m ch) m ((adjI (L.take k) a).map iv)) := by have := HOWN.out; rw [HM.out] at this; exact this
      go_wp2_with fail
      go_region_law (refine step_append_lies _ rfl (.tmp 23) (.tmp 26) 25 rfl (w.heap.size + 1) 3 i0 _ 1 8 Try.underlying25 HI.out HZ0.out HZ1.out HZ2.out rfl (by decide) _ _ _ (by simp [Act.eval]) (own_below HO.out (by repeat (first | exact Below.refl _ _ | (with_reducible refine Below.drew ?_) | refine Below.setCell ?_ (by simp) _ | refine Below.alloc ?_ (by first | omega | (simp; done) | (simp; omega)) _))) ⟨wr.heap.size + 1, 0, none⟩ 1 1 [iv b] (by simp [Act.eval]) rfl (by intro j u hj; rw [add_at]; (match j, hj with | 0, hj => (injection hj with hj; subst hj; simp [iv]) | j + 1, hj => cases hj)) (by intro u hu; simp at hu; subst hu; rfl) (by decide) HLN.out.1 HLN.out.2 (by have := HB.out.size; first | omega | (simp; omega) | (simp; done)) _ rfl ?_; intro g cap w6 hrow hgrow hat hg6; obtain ⟨U0, G0, PUSH, B6, Z6, X0, X1, XZ⟩ := rows_all HR.out HB.out HO.out HP.out han HM.out u0 g0 z0 HNE.out hrow hgrow hat (by repeat (first | exact Below.refl _ _ | (with_reducible refine Below.drew ?_) | refine Below.setCell ?_ (by simp) _ | refine Below.alloc ?_ (by first | omega | (simp; done) | (simp; omega)) _)) (by simp) (by simp) (by first | omega | (simp; done) | (simp; omega)); clear hrow hgrow hat u0 g0)
      all_goals
        go_wp2
        go_roundw
        case rel => exact ⟨k + 1, HLT.out, by go_num, PUSH.out _ (by repeat (first | exact Below.refl _ _ | (with_reducible refine Below.drew ?_))), by repeat (first | exact B6.out | (with_reducible refine Below.drew ?_) | refine Below.setCell ?_ (by simp) _)⟩
        case measure => have := HLT.out; simp [intOf]; omega
    · have : k = L.length := by omega
      subst this
      have E : Hid (L.take L.length = L) := List.take_length
      go_wp2
      go_ret
      exact ⟨w.heap.size, rfl, by have := HR.out; rw [E.out] at this; exact this, Nat.le_refl _, HB.out⟩

end Go.Proofs.Ytkmbjpgpkgeiaaa

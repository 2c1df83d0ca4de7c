/- Plain words on the visits, and what stands ready for their walk. -/
import Derived.Test.YtkmbjpgpkgeiaaaRows
import Derived.WalkKit
import Derived.ProofKit
import Derived.OpenShut
import Derived.Below
import Derived.Outline
import Derived.LoopTactic
import Derived.Lib.Hide
import Derived.WalkSpells
import Derived.RegionTactic
import Derived.BigRegion
import Derived.Deep.QuietTactic
import Derived.BigQuiet
import Derived.Deep.RegionWith
import Derived.Test.YtkmbjpgpkgeiaaaC0
namespace Go.Proofs.Ytkmbjpgpkgeiaaa
open Go.ChangeShapes Go.WideShapes Go.ChangeAt Go.RowKit
set_option linter.unusedVariables false

theorem nodup_le : ∀ (n : Nat) (l : List Nat), l.Nodup → (∀ x ∈ l, x < n) → l.length ≤ n
  | 0, [], _, _ => Nat.le_refl _
  | 0, x :: r, _, h => absurd (h x (by simp)) (by omega)
  | n + 1, l, hn, h => by
    have h1 := nodup_le n (l.erase n) (hn.sublist List.erase_sublist) (fun x hx => by
      have h2 := h x (List.mem_of_mem_erase hx)
      have h3 : x ≠ n := fun e => by
        subst e
        exact (List.Nodup.not_mem_erase hn) hx
      omega)
    have h2 : l.length ≤ (l.erase n).length + 1 := by
      rw [List.length_erase]
      split <;> omega
    omega
section
variable {to : Nat → List Nat} {n : Nat} {s s0 : St} {G : List Nat} {a : Nat}
theorem Inv.ks_le (h : Inv to n s G) : s.ks.length ≤ n := nodup_le n s.ks h.nod h.lt
theorem Inv.ks_lt (h : Inv to n s G) (ha : a < n) (hf : a ∉ s.ks) : s.ks.length < n := by
  have := nodup_le n (s.ks ++ [a]) (by
    rw [List.nodup_append]
    refine ⟨h.nod, by simp, fun x hx y hy => ?_⟩
    simp at hy
    subst hy
    intro e
    subst e
    exact hf hx) (fun x hx => by
      rw [List.mem_append] at hx
      rcases hx with hx | hx
      · exact h.lt x hx
      · simp at hx
        subst hx
        exact ha)
  simp at this
  omega
theorem Inv.st_le (h : Inv to n s G) : s.st.length ≤ n := Nat.le_trans h.sub.length_le h.ks_le
theorem Inv.st_nod (h : Inv to n s G) : s.st.Nodup := h.nod.sublist h.sub
theorem Inv.st_lt (h : Inv to n s G) {x : Nat} (hx : x ∈ s.st) : x < n := h.lt x (h.st_ks hx)
theorem Inv.al_le (h : Inv to n s G) : s.al.length ≤ n := by
  -- one point of each knot
  have hp : ∀ i, i < s.al.length → ∃ x, ∃ c, s.al[i]? = some c ∧ x ∈ c := fun i hi => by
    obtain ⟨c, hc⟩ : ∃ c, s.al[i]? = some c := ⟨_, List.getElem?_eq_getElem hi⟩
    obtain ⟨hne, _⟩ := h.scc c (List.mem_of_getElem? hc)
    cases c with
    | nil => exact absurd rfl hne
    | cons x r => exact ⟨x, x :: r, hc, by simp⟩
  have hgen : ∀ m, m ≤ s.al.length → ∃ l : List Nat, l.length = m ∧ l.Nodup ∧ ∀ x ∈ l, x < n ∧ ∃ (i : Nat) (c : List Nat), i < m ∧ s.al[i]? = some c ∧ x ∈ c := by
    intro m
    induction m with
    | zero => exact fun _ => ⟨[], rfl, by simp, by simp⟩
    | succ m ih =>
      intro hm
      obtain ⟨l, h1, h2, h3⟩ := ih (by omega)
      obtain ⟨x, c, hc, hx⟩ := hp m (by omega)
      refine ⟨x :: l, by simp [h1], ?_, ?_⟩
      · refine List.nodup_cons.2 ⟨fun hxl => ?_, h2⟩
        obtain ⟨_, i, d, hi, hd, hxd⟩ := h3 x hxl
        have := h.uniq i m d c x hd hc hxd hx
        omega
      · intro y hy
        rcases List.mem_cons.1 hy with rfl | hy
        · exact ⟨h.lt y (h.alk c (List.mem_of_getElem? hc) y hx).1, m, c, by omega, hc, hx⟩
        · obtain ⟨h5, i, d, hi, r⟩ := h3 y hy
          exact ⟨h5, i, d, by omega, r⟩
  obtain ⟨l, h1, h2, h3⟩ := hgen s.al.length (Nat.le_refl _)
  rw [← h1]
  exact nodup_le n l h2 (fun x hx => (h3 x hx).1)
end

def Placed (pl : List Int) (al : List (List Nat)) : Prop := ∀ (i : Nat) (c : List Nat), al[i]? = some c → ∀ x ∈ c, pl[x]? = some (i : Int)

section
variable (w0 : World) (B0 h n gto : Nat) (xss : List (List Int)) (clo : Value)
def Knows (s : St) (w : World) : Prop := ∃ vo va hs pl, Rep w0 B0 h n gto xss clo vo va hs pl s.ks s.st s.st s.al w ∧ Placed pl s.al
def VisP (to : Nat → List Nat) (G : List Nat) (s : St) (a : Nat) (e : Ending) (w' : World) : Prop := ∃ (s' : St) (lo : Nat) (kn new : List Nat) (an : List (List Nat)), e = .returned (.int .i64 lo) ∧ Post to n G s a s' lo kn new an ∧ Knows w0 B0 h n gto xss clo s' w'
end
section
variable {w0 : World} {B0 h n gto : Nat} {xss : List (List Int)} {clo vo va : Value} {hs : List Value} {pl : List Int} {ks op st : List Nat} {al : List (List Nat)} {w w' : World}
theorem Knows.below {s : St} (k : Knows w0 B0 h n gto xss clo s w) (hb : Below w.heap.size w w') : Knows w0 B0 h n gto xss clo s w' := by
  obtain ⟨vo, va, hs, pl, R, hp⟩ := k
  exact ⟨vo, va, hs, pl, R.below hb, hp⟩
theorem Rep.rowc (R : Rep w0 B0 h n gto xss clo vo va hs pl ks op st al w) {a : Nat} {v : Value} (hc : w0.cell? ⟨gto, a, none⟩ = some v) : w.cell? ⟨gto, a, none⟩ = some v := by
  have := R.b1
  rw [← hc]
  exact World.cell?_of_block (R.fr.block gto (World.block_lt_of_cell? w0 _ hc) (fun e => by injection e with e; omega))
theorem Rep.rowi (R : Rep w0 B0 h n gto xss clo vo va hs pl ks op st al w) {v : Value} {xs : List Int} (ho : w0.ownsRow (gto + 1) 3 1 v xs.length (xs.map iv)) : IsAt w v xs := by
  have := R.b1
  refine IsAt.own (ho.kept R.fr ?_)
  cases e : v.ownBlock with
  | none => exact .inl rfl
  | some q =>
    right
    intro e2
    have := own_base ho q e
    injection e2 with e2
    omega
/-- Between the append to open and its store. -/
theorem Rep.mid {W w6 : World} {g m cap a : Nat} {x : Nat} {hd : Value} (R : Rep w0 B0 h n gto xss clo vo va hs pl ks op st al w) (hW : Below w.heap.size w W) (hm : st.length = m) (hrow : w6.ownsRow (h + 6) 3 1 (.slice (some ⟨g, 0, none⟩) (m + 1) cap) (m + 1) ((cI st).map iv ++ [iv a])) (hg : W.grownBy w6 vo.ownBlock) (hat : vo.ownBlock = some g ∨ g = W.heap.size) (hc : w0.cell? ⟨gto, x, none⟩ = some hd) :
    w6.cell? ⟨h, 0, none⟩ = some (.slice (some ⟨gto, 0, none⟩) n n) ∧ w6.cell? ⟨gto, x, none⟩ = some hd ∧ w6.cell? ⟨h + 4, 0, none⟩ = some vo ∧ w6.frozen? ⟨h + 4, 0, none⟩ = false ∧ h + 4 < w6.heap.size ∧ (¬ gto = h + 4) ∧ gto < w6.heap.size ∧
    Hid (∀ u : World, Below w6.heap.size w6 u → Rep w0 B0 h n gto xss clo (.slice (some ⟨g, 0, none⟩) (m + 1) cap) va hs pl ks op (st ++ [a]) al (u.setCell ⟨h + 4, 0, none⟩ (.slice (some ⟨g, 0, none⟩) (m + 1) cap))) := by
  subst hm
  have := R.b1
  have := R.b2
  have hbig := R.big
  have C6 : Chg (fun k => vo.ownBlock = some k) w w6 := (Chg.below hW).trans (.grown hg (fun q e => e))
  have no : ∀ k, k < h + 6 → ¬ (vo.ownBlock = some k) := fun k h1 h3 => by have := R.base_vo h3; omega
  have hc1 := R.rowc hc
  have hlt := World.block_lt_of_cell? w _ hc1
  refine ⟨(C6.row R.tv (no _ (by omega))).get rfl, ?_, (C6.row R.ov (no _ (by omega))).get rfl, (C6.row R.ov (no _ (by omega))).frozen 0, by have := C6.size; omega, by omega, Nat.lt_of_lt_of_le hlt C6.size, fun u hu => R.push hW hrow hg ?_ hu⟩
  · rw [← hc1]
    exact World.cell?_of_block (C6.block gto hlt (no _ (by omega)))
  · rcases hat with e | e
    · exact .inl (by rw [e]; rfl)
    · exact .inr (by rw [e]; rfl)
theorem Rep.drewn (R : Rep w0 B0 h n gto xss clo vo va hs pl ks op st al w) : Rep w0 B0 h n gto xss clo vo va hs pl ks op st al w.drew := R.below (Below.drew (Below.refl _ _))
theorem Rep.close {A : Option Addr} {c p q : Nat} {st0 comp : List Nat} (R : Rep w0 B0 h n gto xss clo (.slice A st.length c) va hs pl ks (st0 ++ comp.drop q) st al w) (e : st = st0 ++ comp) (hp : st0.length = p) (hq : comp.length = q) :
    Rep w0 B0 h n gto xss clo (.slice A p c) va hs pl ks st0 st0 al (w.setCell ⟨h + 4, 0, none⟩ (.slice A p c)) := by
  have h1 := R.pop (k := p) (by rw [e, List.length_append]; omega)
  have e1 : st.take p = st0 := by rw [e, ← hp]; simp
  have e2 : st0 ++ comp.drop q = st0 := by rw [← hq]; simp
  rw [e1, e2] at h1
  exact h1
/-- Between the append to all and its store. -/
theorem Rep.mid2 {w1 W w6 : World} {g m cap : Nat} {v2 : Value} {ys : List Nat} (R : Rep w0 B0 h n gto xss clo vo va hs pl ks op st al w) (hw : Below w.heap.size w w1) (h2 : w1.ownsRow w.heap.size 3 1 v2 ys.length ((cI ys).map iv)) (hW : Below w1.heap.size w1 W) (hm : al.length = m) (hrow : w6.ownsRow (h + 6) 25 1 (.slice (some ⟨g, 0, none⟩) (m + 1) cap) (m + 1) (hs ++ [v2])) (hg : W.grownBy w6 va.ownBlock) (hat : va.ownBlock = some g ∨ g = W.heap.size) :
    w6.cell? ⟨B0 + 1, 0, none⟩ = some va ∧ w6.frozen? ⟨B0 + 1, 0, none⟩ = false ∧ B0 + 1 < w6.heap.size ∧ w6.cell? ⟨h + 4, 0, none⟩ = some vo ∧ w6.frozen? ⟨h + 4, 0, none⟩ = false ∧ h + 4 < w6.heap.size ∧ w6.cell? ⟨B0, 0, none⟩ = some (.int .i64 n) ∧ B0 < w6.heap.size ∧ (¬ h + 3 = B0) ∧ (¬ B0 = h + 3) ∧ (¬ B0 = h + 4) ∧ (¬ h + 4 = B0) ∧
    Hid (∀ u : World, Below w6.heap.size w6 u → Rep w0 B0 h n gto xss clo vo (.slice (some ⟨g, 0, none⟩) (m + 1) cap) (hs ++ [v2]) pl ks op st (al ++ [ys]) (u.setCell ⟨B0 + 1, 0, none⟩ (.slice (some ⟨g, 0, none⟩) (m + 1) cap))) := by
  subst hm
  have hb1 := R.b1
  have hb2 := R.b2
  have hbz := R.hz
  have hbig := R.big
  have hwW : Below w.heap.size w W := hw.trans (hW.mono hw.size)
  have C6 : Chg (fun k => va.ownBlock = some k) w w6 := (Chg.below hwW).trans (.grown hg (fun q e => e))
  have no : ∀ k, k < h + 6 → ¬ (va.ownBlock = some k) := fun k h1 h3 => by have := R.base_va h3; omega
  have hs6 := C6.size
  have hN : Row w B0 3 [iv n] := R.nb.grown R.fr (fun e => by injection e with e; omega)
  refine ⟨(C6.row R.av (no _ (by omega))).get rfl, (C6.row R.av (no _ (by omega))).frozen 0, by omega, (C6.row R.ov (no _ (by omega))).get rfl, (C6.row R.ov (no _ (by omega))).frozen 0, by omega, (C6.row hN (no _ (by omega))).get rfl, by omega, by omega, by omega, by omega, by omega, fun u hu => R.more hw h2 hW hrow hg ?_ hu⟩
  rcases hat with e | e
  · exact .inl (by rw [e]; rfl)
  · exact .inr (by rw [e]; rfl)
end

/-- The place of a point in the list of what is open. -/
theorem idx_open {st new : List Nat} {a : Nat} (h : (st ++ a :: new).Nodup) : idxF (fun y => y == ((a : Nat) : Int)) (cI (st ++ a :: new)) = (st.length : Nat) := by
  have hd := (List.nodup_append.1 h).2.2
  refine idxF_some (y := (a : Int)) (by simp [cI]) (fun x hx => ?_) (by simp)
  have : (cI (st ++ a :: new)).take st.length = cI st := by simp [cI]
  rw [this] at hx
  simp only [cI, List.mem_map] at hx
  obtain ⟨y, hy, rfl⟩ := hx
  have := hd y hy a (by simp)
  simp
  omega
theorem open_at {w : World} {base go c p q : Nat} {st0 st comp : List Nat} (h : w.ownsRow base 3 1 (.slice (some ⟨go, 0, none⟩) st.length c) st.length ((cI st).map iv)) (hq : comp.length = q) (hp : st0.length = p) (hs : st = st0 ++ comp) (hlt : p < st.length) : IsAt w (.slice (some ⟨go, p, none⟩) q (c - p)) ((cI st).drop p) := by
  obtain ⟨g, e, _, _, hd⟩ := own_drop h hlt
  injection e with e
  injection e with e _ _
  subst e
  have : st.length - p = q := by rw [hs, List.length_append]; omega
  rw [this] at hd
  exact hd
theorem open_get {p j x : Nat} {st0 st comp : List Nat} (hs : st = st0 ++ comp) (hp : st0.length = p) (hx : comp[j]? = some x) : ((cI st).drop p)[j]? = some (x : Int) := by
  subst hp hs
  simp [cI, hx]
theorem open_cI {w : World} {v : Value} {p : Nat} {st0 st comp : List Nat} (h : IsAt w v ((cI st).drop p)) (hs : st = st0 ++ comp) (hp : st0.length = p) : IsAt w v (cI comp) := by
  have : (cI st).drop p = cI comp := by subst hp hs; simp [cI]
  rw [this] at h
  exact h
theorem mn_nat (a b : Nat) : mn (a : Int) (b : Int) = ((min a b : Nat) : Int) := by rw [mn_eq]; omega
theorem placed_more {pl : List Int} {al : List (List Nat)} {comp : List Nat} (h : Placed pl al) (hc : ∀ x ∈ comp, pl[x]? = some ((al.length : Nat) : Int)) : Placed pl (al ++ [comp]) := by
  intro i c hi x hx
  by_cases e : i < al.length
  · rw [List.getElem?_append_left e] at hi
    exact h i c hi x hx
  · obtain rfl : i = al.length := by
      have := (List.getElem?_eq_some_iff.1 hi).1
      simp at this
      omega
    have : comp = c := by simpa using hi
    subst this
    exact hc x hx
/-- One point more of the new knot has its place. -/
theorem placed_set {pl : List Int} {al : List (List Nat)} {comp : List Nat} {j x : Nat} (h : Placed pl al) (hal : ∀ c ∈ al, x ∉ c) (hc : ∀ y ∈ comp.take j, pl[y]? = some ((al.length : Nat) : Int)) (hx : comp[j]? = some x) (hn : x < pl.length) :
    Placed (pl.set x (al.length : Nat)) al ∧ ∀ y ∈ comp.take (j + 1), (pl.set x ((al.length : Nat) : Int))[y]? = some ((al.length : Nat) : Int) := by
  refine ⟨fun i c hi y hy => ?_, fun y hy => ?_⟩
  · have hne : x ≠ y := fun e => hal c (List.mem_of_getElem? hi) (by rw [e]; exact hy)
    rw [List.getElem?_set_ne hne]
    exact h i c hi y hy
  · by_cases e : x = y
    · subst e
      rw [List.getElem?_set_self hn]
    · rw [List.getElem?_set_ne e]
      obtain ⟨hj, e2⟩ := List.getElem?_eq_some_iff.1 hx
      rw [List.take_succ_eq_append_getElem hj, e2, List.mem_append] at hy
      rcases hy with hy | hy
      · exact hc y hy
      · simp at hy
        exact absurd hy.symm e
theorem open_less {s0 comp : List Nat} {j x : Nat} (hn : (s0 ++ comp).Nodup) (hx : comp[j]? = some x) (y : Nat) : y ∈ s0 ++ comp.drop (j + 1) ↔ y ∈ s0 ++ comp.drop j ∧ y ≠ x := by
  obtain ⟨hj, e⟩ := List.getElem?_eq_some_iff.1 hx
  have hd : comp.drop j = x :: comp.drop (j + 1) := by rw [← e]; exact List.drop_eq_getElem_cons hj
  obtain ⟨h1, h2, h3⟩ := List.nodup_append.1 hn
  have hnx : x ∉ s0 := fun h => h3 x h x (List.mem_of_getElem? hx) rfl
  have hnd : x ∉ comp.drop (j + 1) := by
    have := h2.sublist (List.drop_sublist j comp)
    rw [hd, List.nodup_cons] at this
    exact this.1
  rw [hd]
  simp only [List.mem_append, List.mem_cons]
  constructor
  · rintro (h | h)
    · exact ⟨.inl h, fun e => hnx (e ▸ h)⟩
    · exact ⟨.inr (.inr h), fun e => hnd (e ▸ h)⟩
  · rintro ⟨h | h | h, hne⟩
    · exact .inl h
    · exact absurd h hne
    · exact .inr h

end Go.Proofs.Ytkmbjpgpkgeiaaa

/- Plain lemmas on a memory with one block more: its pointer, its values at first, its depth; and what is at other pointers. -/
import Derived.Test.YtmelamlngjflkaaQ
namespace Go.Proofs.Ytmelamlngjflkaa
open Go.RowKit

section
variable {m : List Blk} {site ty d : Int} {l : List Int}

def freshP (m : List Blk) (k : Int) : Val := ⟨2, 0, m.length + 1, k⟩

theorem fresh_get : (m ++ [newB site ty d l])[((m.length : Int) + 1).toNat - 1]? = some (newB site ty d l) := by
  rw [show ((m.length : Int) + 1).toNat - 1 = m.length by omega, List.getElem?_append_right (Nat.le_refl _)]
  simp
theorem fresh_blk (k : Int) : blkAt (m ++ [newB site ty d l]) (freshP m k) = newB site ty d l := by
  unfold blkAt freshP
  rw [fresh_get]
  rfl
theorem fresh_is {k : Int} (h0 : 0 ≤ k) (h1 : k < l.length) : isB (m ++ [newB site ty d l]) (freshP m k) = true := by
  unfold isB
  rw [Bool.and_eq_true]
  constructor
  · exact mayB_true.2 (.inr (.inl ⟨rfl, rfl, .inr ⟨by show (0 : Int) < m.length + 1; omega, h0⟩⟩))
  · unfold inB freshP
    simp only [fresh_get]
    simp [newB, h1]
theorem fresh_asked (h : newI m site ty d l = 0) {k : Int} (h0 : 0 ≤ k) (h1 : k < l.length) (n : Bool) : askedI (m ++ [newB site ty d l]) (freshP m k) n = 0 := by
  have hb : ¬ ((m.length : Int) + 1 = 0) := by omega
  unfold askedI askI
  rw [newed_may h, if_pos rfl, if_neg (by rw [fresh_is h0 h1]; simp [freshP]), if_neg (fun e => hb e.1)]
theorem fresh_load (h : newI m site ty d l = 0) {k : Nat} (h1 : k < l.length) : loadI (m ++ [newB site ty d l]) (freshP m k) = 0 ∧ loadV (m ++ [newB site ty d l]) (freshP m k) = firstV l[k] := by
  have ha := fresh_asked h (k := k) (by omega) (by omega) false
  constructor
  · unfold loadI
    rw [ha, if_pos rfl, fresh_blk, if_pos (by rfl)]
  · unfold loadV
    rw [ha, if_pos ⟨rfl, by rw [fresh_blk]; rfl⟩]
    unfold cellAt
    rw [fresh_blk]
    simp [newB, freshP, h1]
theorem fresh_move (h : newI m site ty d l = 0) {k : Nat} (h1 : k < l.length) : moveI (m ++ [newB site ty d l]) (freshP m 0) k = 0 ∧ moveV (m ++ [newB site ty d l]) (freshP m 0) k = freshP m k := by
  have ha := fresh_asked h (k := 0) (by omega) (by omega) false
  have hb : ¬ moveBad (m ++ [newB site ty d l]) (freshP m 0) k := by
    unfold moveBad
    rw [fresh_blk]
    simp only [freshP, newB, List.length_map]
    omega
  constructor
  · unfold moveI
    rw [ha, if_pos rfl, if_neg hb]
  · unfold moveV
    rw [ha, if_pos ⟨rfl, hb⟩]
    simp [freshP]
theorem fresh_end (h : newI m site ty d l = 0) : moveI (m ++ [newB site ty d l]) (freshP m 0) l.length = 2 := by
  have hl := new_zero h
  have ha := fresh_asked h (k := 0) (by omega) (by omega) false
  have hb : moveBad (m ++ [newB site ty d l]) (freshP m 0) l.length := by
    unfold moveBad
    rw [fresh_blk]
    simp only [freshP, newB, List.length_map]
    omega
  unfold moveI
  rw [ha, if_pos rfl, if_pos hb]
theorem fresh_depth (h : newI m site ty d l = 0) : depthI (m ++ [newB site ty d l]) (freshP m 0) = 0 ∧ depthV (m ++ [newB site ty d l]) (freshP m 0) = d := by
  have hl := new_zero h
  have hi := fresh_is (m := m) (site := site) (ty := ty) (d := d) (l := l) (k := 0) (by omega) (by omega)
  constructor
  · unfold depthI
    rw [newed_may h, hi, if_pos rfl, if_pos rfl]
  · unfold depthV
    rw [if_pos ⟨newed_may h, hi⟩]
    unfold deepB freshP
    rw [if_pos ⟨rfl, by show (0 : Int) < m.length + 1; omega⟩]
    simp only [fresh_get]
    rfl

theorem asked_old (h : newI m site ty d l = 0) {q : Val} {n : Bool} (hq : ¬ askedI m q n = 2) : askedI (m ++ [newB site ty d l]) q n = askedI m q n := by
  have hy := (new_zero h).1
  unfold askedI askI at hq ⊢
  rw [hy, if_pos rfl] at hq ⊢
  rw [newed_may h, if_pos rfl]
  by_cases hi : q.k = 2 ∧ isB m q = true
  · rw [if_neg (show ¬ ¬ (q.k = 2 ∧ isB m q = true) from fun e => e hi), if_neg (show ¬ ¬ (q.k = 2 ∧ isB (m ++ [newB site ty d l]) q = true) from fun e => e ⟨hi.1, new_is_old hi.2⟩)]
  · rw [if_pos (show ¬ (q.k = 2 ∧ isB m q = true) from hi)] at hq
    exact absurd rfl hq

theorem fresh_old (h : newI m site ty d l = 0) {q : Val} (hq : ¬ loadI m q = 2) : loadI (m ++ [newB site ty d l]) q = loadI m q ∧ loadV (m ++ [newB site ty d l]) q = loadV m q := by
  have ha : ¬ askedI m q false = 2 := by
    intro e
    apply hq
    unfold loadI
    rw [e, if_neg (by decide)]
  have e := asked_old h ha
  unfold loadI loadV
  rw [e]
  by_cases h0 : askedI m q false = 0
  · obtain ⟨_, hkq, hisq, hnq⟩ := askedI_zero h0
    have hqb : ¬ q.b = 0 := fun e => absurd e (by simpa using hnq)
    obtain ⟨hq0, hq1, _⟩ := in_of hkq hqb hisq
    have eb : blkAt (m ++ [newB site ty d l]) q = blkAt m q := by
      unfold blkAt
      rw [List.getElem?_append_left (by omega)]
    unfold cellAt
    rw [eb]
    exact ⟨rfl, rfl⟩
  · rw [if_neg h0, if_neg h0, if_neg (fun e => h0 e.1), if_neg (fun e => h0 e.1)]
    exact ⟨rfl, rfl⟩
theorem fresh_ne {q : Val} (h0 : loadI m q = 0) : ¬ ((m.length : Int) + 1 = q.b) := by
  have ha : askedI m q false = 0 := by
    unfold loadI at h0
    split at h0
    · assumption
    · rename_i h1
      exact absurd h0 h1
  obtain ⟨_, hkq, hisq, hnq⟩ := askedI_zero ha
  have hqb : ¬ q.b = 0 := fun e => absurd e (by simpa using hnq)
  obtain ⟨hq0, hq1, _⟩ := in_of hkq hqb hisq
  omega
end

end Go.Proofs.Ytmelamlngjflkaa

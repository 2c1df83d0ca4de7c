/- An argument opened that is a list of kinds. -/
import Derived.Test.YtmelamlngjflkaaO
import Derived.Test.YtmelamlngjflkaaN
namespace Go.Proofs.Ytmelamlngjflkaa
set_option linter.unusedVariables false
open Go.Joins Go.ChangeShapes Go.WideShapes Go.ChangeAt Go.RowKit Go.Deep

section
variable {H : Type} {enc : TypeId × Value → H} {w : World} {spare : Nat → Bool} {held : Bool}

theorem open_ks {b0 base : Nat} {v : Value} {d : DataW H} {p : List MemPlace} (hv : Value.okWide Try.prog w .any b0 35 v) (h : DataW.Trod enc Try.prog w base spare held 35 v d p) : ∃ l, KsAt w v l := by
  obtain ⟨a0, len0, cap0, rfl⟩ := okWide_slice Try.underlying35 hv
  obtain ⟨fuel, h⟩ := h
  have h : DataW.trod enc Try.prog w base spare held fuel 35 [.slice a0 len0 cap0] = some (d, p) := by simpa [Value.cells] using h
  rcases open_slice Try.underlying35 h with ⟨hc, _⟩ | ⟨a, len, cap, m, n, D, Pl, hcs, hb, hl, hm, hmm, hx, hi⟩
  · injection hc with hc
    rw [hc]
    exact ⟨[], none, 0, rfl, by simp, by simp, fun i b h => by simp at h⟩
  injection hcs with hcs
  rw [hcs]
  have hlm : len ≤ m := by rw [hmm]; split <;> omega
  have hC : Try.prog.cellsOf 5 = 1 := by kernel_rfl
  have key : ∀ i, i < len → ∃ x : Int, 0 ≤ x ∧ w.cell? ⟨a.block, a.off + i, none⟩ = some (.int .u8 x) ∧ (∀ k, a.add k = ⟨a.block, a.off + k, none⟩) := by
    intro i hil
    have hadd : ∀ k, a.add k = ⟨a.block, a.off + k, none⟩ := by
      obtain ⟨cs0, hc0, _⟩ := hi 0 (by omega)
      rw [hC, Nat.zero_mul] at hc0
      obtain ⟨hlen0, hat0⟩ := cells_at hc0
      have h00 := hat0 0 (by omega)
      rw [Go.Deep.add_add, List.getElem?_eq_getElem (by omega)] at h00
      exact add_none h00
    obtain ⟨cs', hc, ht⟩ := hi i (by omega)
    rw [hC, Nat.mul_one] at hc
    obtain ⟨hlen, hat⟩ := cells_at hc
    obtain ⟨n0, e0, _, wf⟩ := DataW.trod_int Try.underlying5 ht
    subst e0
    have h0 := hat 0 (by omega)
    rw [Go.Deep.add_add, hadd] at h0
    refine ⟨n0, ?_, by simpa using h0, hadd⟩
    have e1 : IntKind.u8.min = 0 := by decide
    simp only [Lit.wf, Bool.and_eq_true, decide_eq_true_eq, e1] at wf
    exact wf.1
  obtain ⟨f, hf⟩ := choose_lt key
  refine ⟨(List.range len).map f, some a, cap, by simp, by simp; exact Nat.le_trans hl (by simpa [maxLen] using hm), ?_, fun k x hk => ?_⟩
  · intro k hk
    simp only [List.mem_map, List.mem_range] at hk
    obtain ⟨i, hi', rfl⟩ := hk
    exact (hf i hi').1
  have hkl : k < len := by simpa using (List.getElem?_eq_some_iff.1 hk).1
  have ex : x = f k := by
    rw [List.getElem?_map, List.getElem?_range hkl] at hk
    simpa using hk.symm
  subst ex
  obtain ⟨_, h1, h2⟩ := hf k hkl
  refine ⟨a.block, a.off, ?_, h1⟩
  have := h2 0
  rw [show a.add 0 = a by simp [Addr.add]] at this
  exact congrArg some this
end

end Go.Proofs.Ytmelamlngjflkaa

/- Plain lemmas: where life holds it does so behind Store, Free, New and Pop; and behind a Pop nothing alive reaches its depth. -/
import Derived.Test.YtmelamlngjflkaaQ
namespace Go.Proofs.Ytmelamlngjflkaa
set_option linter.unusedVariables false
open Go.RowKit

section
variable {m : List Blk}

theorem holds_nil : holdsB [] = true := rfl
theorem holds_both (h1 : mayM m = true) (h2 : lifeB m = true) : holdsB m = true := by rw [holdsB, h1, h2]; rfl

theorem store_holds (hl : lifeB m = true) (p x : Val) : holdsB (storeR m p x) = true := by
  unfold storeR
  split
  · rename_i h
    exact holds_both (stored_may h) (stored_life h hl)
  · exact holds_nil
theorem free_holds (hl : lifeB m = true) (p : Val) : holdsB (freeR m p) = true := by
  unfold freeR
  split
  · rename_i h
    exact holds_both (freed_may h) (freed_life h hl)
  · exact holds_nil
theorem new_holds (hl : lifeB m = true) (site ty d : Int) (l : List Int) : holdsB (newR m site ty d l) = true := by
  unfold newR
  split
  · rename_i h
    exact holds_both (newed_may h) (newed_life h hl)
  · exact holds_nil
theorem pop_holds (hl : lifeB m = true) (d : Int) : holdsB (popR m d) = true := by
  unfold popR
  split
  · rename_i h
    exact holds_both (popped_may h) (popped_life hl)
  · exact holds_nil

theorem pop_dep {d : Int} {b : Blk} (hb : b ∈ m.map (popB d)) (ha : b.alive = true) : b.dep < d := by
  simp only [List.mem_map] at hb
  obtain ⟨b, _, rfl⟩ := hb
  obtain ⟨_, e2, _, _, e5⟩ := popB_eq d b
  rw [e2]
  exact (e5 ha).2
theorem pop_deep {d : Int} (h : popI m d = 0) (hl : lifeB m = true) {b : Blk} (hb : b ∈ m.map (popB d)) (ha : b.alive = true) {c : Val} (hc : c ∈ b.cells) : depthI (m.map (popB d)) c = 0 ∧ depthV (m.map (popB d)) c < d := by
  have hm := popped_may h
  have hi := ((may_iff.1 hm).2 b hb).2 c hc
  have h1 := life_iff.1 (popped_life (d := d) hl) b hb ha c hc
  have h2 := pop_dep hb ha
  unfold depthI depthV
  rw [hm, if_pos rfl, hi, if_pos rfl, if_pos ⟨rfl, rfl⟩]
  exact ⟨rfl, by omega⟩
end

end Go.Proofs.Ytmelamlngjflkaa

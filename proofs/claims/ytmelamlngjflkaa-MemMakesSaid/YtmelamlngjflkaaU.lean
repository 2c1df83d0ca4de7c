/- A region that draws its order, whose operations only read what was there and whose calls leave all that was there as it was: one walk in the order of the text serves every order. 'upon W B x': any world that is as W was below block B. -/
import Derived.WalkKit
import Derived.Below
import Derived.Deep.QuietTactic
import Derived.BigQuiet
namespace Go.Proofs.Ytmelamlngjflkaa
open Go.RowKit

open Classical in
noncomputable def upon (W : World) (B : Nat) (x : World) : World := if Below B W x then x else W

theorem upon_below (W : World) (B : Nat) (x : World) : Below B W (upon W B x) := by
  unfold upon
  split
  · assumption
  · exact Below.refl _ _

theorem upon_of {W : World} {B : Nat} {x : World} (h : Below B W x) : x = upon W B x := by
  unfold upon
  rw [if_pos h]

theorem upon_cell (W : World) (B : Nat) (x : World) (b o : Nat) (h : b < B) : (upon W B x).cell? ⟨b, o, none⟩ = W.cell? ⟨b, o, none⟩ := (upon_below W B x).cell (p := ⟨b, o, none⟩) h

theorem wp_region_upon {P : Program} {id : Nat} {Q : Exit → Act → World → Prop} {a : Act} {w : World} {l : List Oper} (hm : P.follows .mixedOrders = true) (hB : Region.lexB .any l.toArray = true)
    (h : wpQuiet P l.toArray (fun w' => ∃ x, w' = upon w w.heap.size x) (fun a' => ∀ w', Below w.heap.size w w' → Q .normal a' w') l a) : (Code.region id l.toArray true).wp P Q a w := by
  refine wp_region_quiet (C := fun w' => ∃ x, w' = upon w w.heap.size x) hm hB ⟨_, upon_of (Below.drew (Below.refl _ _))⟩ ?_
  have e : (fun a' => ∀ w', Below w.heap.size w w' → Q .normal a' w') = fun a' => ∀ w', (∃ x, w' = upon w w.heap.size x) → Q .normal a' w' := by
    funext a'
    refine propext ⟨fun h w' ⟨x, hx⟩ => h w' (hx ▸ upon_below _ _ _), fun h w' hb => h w' ⟨w', upon_of hb⟩⟩
  rw [← e]
  simpa using h

theorem calls_upon {P : Program} {f : FuncId} {args : Array Value} {W x : World} {v : Value}
    (h : Calls P f args (upon W W.heap.size x) fun e w' => e = .returned v ∧ Below (upon W W.heap.size x).heap.size (upon W W.heap.size x) w') :
    Calls P f args (upon W W.heap.size x) fun e w' => e = .returned v ∧ ∃ y, w' = upon W W.heap.size y :=
  h.mono fun _ w' ⟨he, hb⟩ => ⟨he, w', upon_of ((upon_below W W.heap.size x).trans (hb.mono (upon_below W W.heap.size x).size))⟩

/-- The world at hand is given a new name, of which only R is kept. -/
theorem wp_world {P : Program} {c : Code} {Q : Exit → Act → World → Prop} {a : Act} {w : World} (R : World → Prop) (hR : R w) (h : ∀ W, R W → c.wp P Q a W) : c.wp P Q a w := h w hR

end Go.Proofs.Ytmelamlngjflkaa

/- How a memory of blocks lies in the machine's memory: 'BsAt w v m': the slice value v reads as the blocks m. -/
import Derived.WalkKit
import Derived.Below
namespace Go.Proofs.Ytmelamlngjflkaa
open Go.RowKit

/-- A value: its kind, number, block, place. -/
structure Val where
  k : Int
  n : Int
  b : Int
  o : Int
  deriving DecidableEq

/-- A block. -/
structure Blk where
  site : Int
  ty : Int
  dep : Int
  alive : Bool
  cells : List Val
  deriving DecidableEq

def VAt (w : World) (g o : Nat) (x : Val) : Prop :=
  w.cell? ⟨g, o, none⟩ = some (.int .u8 x.k) ∧ w.cell? ⟨g, o + 1, none⟩ = some (.int .i64 x.n) ∧ w.cell? ⟨g, o + 2, none⟩ = some (.int .i64 x.b) ∧ w.cell? ⟨g, o + 3, none⟩ = some (.int .i64 x.o)

def VsAt (w : World) (v : Value) (l : List Val) : Prop :=
  ∃ A c, v = .slice A l.length c ∧ l.length ≤ 9223372036854775807 ∧ ∀ k x, l[k]? = some x → ∃ g o, A = some ⟨g, o, none⟩ ∧ VAt w g (o + k * 4) x

def BAt (w : World) (g o : Nat) (b : Blk) : Prop :=
  w.cell? ⟨g, o, none⟩ = some (.int .i64 b.site) ∧ w.cell? ⟨g, o + 1, none⟩ = some (.int .i64 b.ty) ∧ w.cell? ⟨g, o + 2, none⟩ = some (.int .i64 b.dep) ∧ w.cell? ⟨g, o + 3, none⟩ = some (.bool b.alive) ∧
    ∃ h, w.cell? ⟨g, o + 4, none⟩ = some h ∧ VsAt w h b.cells

def BsAt (w : World) (v : Value) (m : List Blk) : Prop :=
  ∃ A c, v = .slice A m.length c ∧ m.length ≤ 9223372036854775807 ∧ ∀ i b, m[i]? = some b → ∃ g o, A = some ⟨g, o, none⟩ ∧ BAt w g (o + i * 5) b

theorem cell_below {w w1 : World} (h : Below w.heap.size w w1) {a : Addr} {v : Value} (hc : w.cell? a = some v) : w1.cell? a = some v := (h.cell (World.block_lt_of_cell? w a hc)).trans hc

theorem VAt.below {w w1 : World} (hb : Below w.heap.size w w1) {g o : Nat} {x : Val} (h : VAt w g o x) : VAt w1 g o x :=
  ⟨cell_below hb h.1, cell_below hb h.2.1, cell_below hb h.2.2.1, cell_below hb h.2.2.2⟩

theorem VsAt.below {w w1 : World} (hb : Below w.heap.size w w1) {v : Value} {l : List Val} (h : VsAt w v l) : VsAt w1 v l := by
  obtain ⟨A, c, hv, hl, hx⟩ := h
  exact ⟨A, c, hv, hl, fun k x hk => let ⟨g, o, hA, h4⟩ := hx k x hk; ⟨g, o, hA, h4.below hb⟩⟩

theorem BAt.below {w w1 : World} (hb : Below w.heap.size w w1) {g o : Nat} {x : Blk} (h : BAt w g o x) : BAt w1 g o x := by
  obtain ⟨h0, h1, h2, h3, v, h4, h5⟩ := h
  exact ⟨cell_below hb h0, cell_below hb h1, cell_below hb h2, cell_below hb h3, v, cell_below hb h4, h5.below hb⟩

theorem BsAt.below {w w1 : World} (hb : Below w.heap.size w w1) {v : Value} {m : List Blk} (h : BsAt w v m) : BsAt w1 v m := by
  obtain ⟨A, c, hv, hl, hx⟩ := h
  exact ⟨A, c, hv, hl, fun k x hk => let ⟨g, o, hA, h4⟩ := hx k x hk; ⟨g, o, hA, h4.below hb⟩⟩

end Go.Proofs.Ytmelamlngjflkaa

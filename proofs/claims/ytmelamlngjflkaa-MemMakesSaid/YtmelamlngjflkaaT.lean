/- The contracts of number and alive (the chapter's examples), and what the contracts say of memories that are written out. -/
import Derived.Test.YtmelamlngjflkaaRows
import Derived.WalkKit
import Derived.ProofKit
import Derived.OpenShut
import Derived.Below
import Derived.Outline
import Derived.LoopTactic
import Derived.Test.YtmelamlngjflkaaRep
import Derived.Test.YtmelamlngjflkaaU
import Derived.Lib.Hide
import Derived.RegionTactic
import Derived.BigRegion
import Derived.Deep.RegionWith
import Derived.Test.YtmelamlngjflkaaF
import Derived.Test.YtmelamlngjflkaaE
import Derived.Test.YtmelamlngjflkaaK
import Derived.Test.YtmelamlngjflkaaN
import Derived.Test.YtmelamlngjflkaaS
namespace Go.Proofs.Ytmelamlngjflkaa
open Go.ChangeShapes Go.WideShapes Go.ChangeAt Go.RowKit
set_option linter.unusedVariables false

theorem bs_nil (w : World) : BsAt w (.slice none 0 0) [] := ⟨none, 0, rfl, by decide, fun i b h => by simp at h⟩
theorem ks_one {w : World} {b : Nat} {k : Int} (hk : 0 ≤ k) (h : w.cell? ⟨b, 0, none⟩ = some (.int .u8 k)) : KsAt w (.slice (some ⟨b, 0, none⟩) 1 1) [k] := by
  refine ⟨_, 1, rfl, by simp, by simpa using hk, fun i x hx => ?_⟩
  match i, hx with
  | 0, hx => injection hx with hx; subst hx; exact ⟨b, 0, rfl, h⟩
  | i + 1, hx => cases hx
theorem ks_two {w : World} {b : Nat} {k q : Int} (hk : 0 ≤ k) (hq : 0 ≤ q) (h : w.cell? ⟨b, 0, none⟩ = some (.int .u8 k)) (h1 : w.cell? ⟨b, 1, none⟩ = some (.int .u8 q)) : KsAt w (.slice (some ⟨b, 0, none⟩) 2 2) [k, q] := by
  refine ⟨_, 2, rfl, by simp, by simp [hk, hq], fun i x hx => ?_⟩
  match i, hx with
  | 0, hx => injection hx with hx; subst hx; exact ⟨b, 0, rfl, h⟩
  | 1, hx => injection hx with hx; subst hx; exact ⟨b, 0, rfl, h1⟩
  | i + 2, hx => cases hx
theorem ks_nil (w : World) : KsAt w (.slice none 0 0) [] := ⟨none, 0, rfl, by simp, by simp, fun i b h => by simp at h⟩

theorem new_at {m : List Blk} {v lv : Value} {l : List Int} {r : List Blk} {p : Val} {i : Int} (site ty d : Int) (w : World) (hm : BsAt w v m) (hl : KsAt w lv l) (hlx : l.length ≤ 40) (hr : newR m site ty d l = r) (hp : newV m site ty d l = p) (hi : newI m site ty d l = i) :
    Calls Try.prog 16 #[v, .int .i64 site, .int .i64 ty, .int .i64 d, lv] w (NewP r p i w) := by
  subst hr hp hi
  exact new_any site ty d w hm hl hlx
theorem store_at {m : List Blk} {v : Value} {r : List Blk} {i : Int} (p x : Val) (w : World) (hm : BsAt w v m) (hr : storeR m p x = r) (hi : storeI m p x = i) : Calls Try.prog 14 #[v, .agg #[.int .u8 p.k, .int .i64 p.n, .int .i64 p.b, .int .i64 p.o], .agg #[.int .u8 x.k, .int .i64 x.n, .int .i64 x.b, .int .i64 x.o]] w (MadeP r i w) := by
  subst hr hi
  exact store_any p x w hm
theorem free_at {m : List Blk} {v : Value} {r : List Blk} {i : Int} (p : Val) (w : World) (hm : BsAt w v m) (hr : freeR m p = r) (hi : freeI m p = i) : Calls Try.prog 15 #[v, .agg #[.int .u8 p.k, .int .i64 p.n, .int .i64 p.b, .int .i64 p.o]] w (MadeP r i w) := by
  subst hr hi
  exact free_any p w hm
theorem pop_at {m : List Blk} {v : Value} {r : List Blk} {i : Int} (d : Int) (w : World) (hm : BsAt w v m) (hr : popR m d = r) (hi : popI m d = i) : Calls Try.prog 17 #[v, .int .i64 d] w (MadeP r i w) := by
  subst hr hi
  exact pop_any d w hm
theorem load_at {m : List Blk} {v : Value} {x : Val} {i : Int} (p : Val) (w : World) (hm : BsAt w v m) (hr : loadV m p = x) (hi : loadI m p = i) : Calls Try.prog 19 #[v, .agg #[.int .u8 p.k, .int .i64 p.n, .int .i64 p.b, .int .i64 p.o]] w fun e w' => e = .returned (.tuple #[.agg #[.int .u8 x.k, .int .i64 x.n, .int .i64 x.b, .int .i64 x.o], .int .i64 i]) ∧ Below w.heap.size w w' := by
  subst hr hi
  exact load_any p w hm
theorem move_at {m : List Blk} {v : Value} {x : Val} {i : Int} (p : Val) (y : Int) (w : World) (hm : BsAt w v m) (hy : -9223372036854775808 ≤ y ∧ y ≤ 9223372036854775807) (hr : moveV m p y = x) (hi : moveI m p y = i) : Calls Try.prog 21 #[v, .agg #[.int .u8 p.k, .int .i64 p.n, .int .i64 p.b, .int .i64 p.o], .int .i64 y] w fun e w' => e = .returned (.tuple #[.agg #[.int .u8 x.k, .int .i64 x.n, .int .i64 x.b, .int .i64 x.o], .int .i64 i]) ∧ Below w.heap.size w w' := by
  subst hr hi
  exact move_any p y hy.1 hy.2 w hm

theorem number_any (n : Int) (w : World) : Calls Try.prog 20 #[.int .i64 n] w fun e w' => e = .returned (.agg #[.int .u8 1, .int .i64 n, .int .i64 0, .int .i64 0]) ∧ Below w.heap.size w w' := by
  go_enter Try.func20, Try.ntmps20
  go_wp2
  exact bodyPost_ret (v := .agg #[.int .u8 1, .int .i64 n, .int .i64 0, .int .i64 0]) (by simp [results, Try.results20, go_sem]) rfl ⟨rfl, by repeat (first | exact Below.refl _ _ | refine Below.setCell ?_ (by simp) _ | refine Below.alloc ?_ (by simp) _)⟩

end Go.Proofs.Ytmelamlngjflkaa

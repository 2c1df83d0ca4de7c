/- The contracts of what goes through a list of values with a question (IndexFunc, ContainsFunc, the closures), of Check and of Holds. -/
import Derived.Test.YtmelamlngjflkaaRows
import Derived.WalkKit
import Derived.ProofKit
import Derived.OpenShut
import Derived.Below
import Derived.Outline
import Derived.LoopTactic
import Derived.Test.YtmelamlngjflkaaRep
import Derived.Test.YtmelamlngjflkaaU
import Derived.Lib.Hide
import Derived.Test.YtmelamlngjflkaaB
namespace Go.Proofs.Ytmelamlngjflkaa
open Go.ChangeShapes Go.WideShapes Go.ChangeAt Go.RowKit
set_option linter.unusedVariables false

def idxF (p : Val → Bool) (l : List Val) : Int := ((l.findIdx? p).map fun n : Nat => (n : Int)).getD (-1)
theorem idxF_none {p : Val → Bool} {l : List Val} (h : ∀ x ∈ l, p x = false) : idxF p l = -1 := by
  have : l.findIdx? p = none := by rw [List.findIdx?_eq_none_iff]; exact h
  simp [idxF, this]
theorem idxF_some {p : Val → Bool} {l : List Val} {k : Nat} (hk : k < l.length) (h : ∀ x ∈ l.take k, p x = false) (hp : p l[k] = true) : idxF p l = k := by
  have : l.findIdx? p = some k := by
    rw [List.findIdx?_eq_some_iff_getElem]
    refine ⟨hk, hp, fun j hj => ?_⟩
    have := h l[j] (by rw [List.mem_take_iff_getElem]; exact ⟨j, by omega, rfl⟩)
    simp [this]
  simp [idxF, this]
theorem any_idxF (p : Val → Bool) (l : List Val) : decide (0 ≤ idxF p l) = l.any p := by
  cases h : l.findIdx? p with
  | none =>
    have h' := h
    rw [List.findIdx?_eq_none_iff] at h'
    have e : l.any p = false := by rw [List.any_eq_false]; intro x hx; simp [h' x hx]
    simp [idxF, h, e]
  | some k =>
    rw [List.findIdx?_eq_some_iff_getElem] at h
    obtain ⟨hk, hp, hh⟩ := h
    have e : l.any p = true := by rw [List.any_eq_true]; exact ⟨l[k], List.getElem_mem hk, hp⟩
    have := idxF_some hk (fun x hx => by
      rw [List.mem_take_iff_getElem] at hx
      obtain ⟨j, hj, rfl⟩ := hx
      simpa using hh j (by omega)) hp
    rw [this, e]
    simp

theorem take_none {p : Val → Bool} {l : List Val} {k : Nat} (hk : k < l.length) (h : ∀ x ∈ l.take k, p x = false) (hp : p l[k] = false) : ∀ x ∈ l.take (k + 1), p x = false := by
  intro x hx
  rw [List.take_succ_eq_append_getElem hk, List.mem_append] at hx
  rcases hx with hx | hx
  · exact h x hx
  · simp at hx; subst hx; exact hp

set_option maxHeartbeats 1000000 in
theorem index_chk (p : Val → Bool) {l : List Val} {v : Value} (c0 : Value) (w : World) (hl : VsAt w v l)
    (H : ∀ (W : World) (x : Val), x ∈ l → Below w.heap.size w W → Calls Try.prog 43 #[.agg #[.int .u8 x.k, .int .i64 x.n, .int .i64 x.b, .int .i64 x.o], c0] W fun e w' => e = .returned (.bool (p x)) ∧ Below W.heap.size W w') :
    Calls Try.prog 60 #[v, .func (Fn.func 43) #[] #[c0]] w fun e w' => e = .returned (.int .i64 (idxF p l)) ∧ Below w.heap.size w w' := by
  have hl' := hl
  obtain ⟨A, c, rfl, hmx, hq⟩ := hl'
  have HL := Lib.hid hl; clear hl
  have HQ := Lib.hid hq; clear hq
  have HH := Lib.hid H; clear H
  go_enter Try.func60, Try.ntmps60
  go_wp2
  go_loopw [5, 8] (fun _ i wr => ∃ k : Nat, k ≤ l.length ∧ i = .int .i64 k ∧ Below w.heap.size w wr ∧ Hid (∀ x ∈ l.take k, p x = false)) (fun _ i _ => l.length - (intOf i).toNat)
  case atStart => exact ⟨0, Nat.zero_le _, rfl, Below.refl _ _, by unfold Hid; simp⟩
  case round =>
    obtain ⟨k, hk, rfl, hb, N⟩ := hrel
    by_cases hlt : k < l.length
    · obtain ⟨g, og, rfl, hg, q0, q1, q2, q3⟩ := HL.out.get (List.getElem?_eq_getElem hlt)
      have r0 := cell_below hb q0
      have r1 := cell_below hb q1
      have r2 := cell_below hb q2
      have r3 := cell_below hb q3
      clear q0 q1 q2 q3
      go_wp2_with fail
      refine (HH.out wr l[k] (List.getElem_mem hlt) hb).mono ?_
      rintro e w1 ⟨rfl, h1⟩
      cases hp : p l[k]
      · have HP := Lib.hid hp; clear hp
        clear r0 r1 r2 r3
        go_wp2
        go_roundw
        case rel => exact ⟨k + 1, by omega, by go_num, hb.trans (h1.mono hb.size), take_none hlt N.out HP.out⟩
        case measure => simp [intOf]; omega
      · have HP := Lib.hid hp; clear hp
        go_wp2
        go_ret
        exact ⟨by rw [idxF_some hlt N.out HP.out]; rfl, hb.trans (h1.mono hb.size)⟩
    · have : k = l.length := by omega
      subst this
      go_wp2
      go_ret
      refine ⟨?_, hb⟩
      rw [List.take_length] at N
      rw [idxF_none N.out]
      rfl

theorem contains_chk (p : Val → Bool) {l : List Val} {v : Value} (c0 : Value) (w : World) (hl : VsAt w v l)
    (H : ∀ (W : World) (x : Val), x ∈ l → Below w.heap.size w W → Calls Try.prog 43 #[.agg #[.int .u8 x.k, .int .i64 x.n, .int .i64 x.b, .int .i64 x.o], c0] W fun e w' => e = .returned (.bool (p x)) ∧ Below W.heap.size W w') :
    Calls Try.prog 37 #[v, .func (Fn.func 43) #[] #[c0]] w fun e w' => e = .returned (.bool (l.any p)) ∧ Below w.heap.size w w' := by
  have HL := Lib.hid hl; clear hl
  have HH := Lib.hid H; clear H
  go_enter Try.func37, Try.ntmps37
  go_wp2_with fail
  (with_reducible refine (index_chk p _ _ HL.out HH.out).mono ?_); rintro e w1 ⟨rfl, h1⟩
  go_wp2
  go_ret
  exact ⟨ret_bool (any_idxF p l), h1⟩

set_option maxHeartbeats 1000000 in
theorem index_hld (p : Val → Bool) {l : List Val} {v : Value} (c0 : Value) (c1 : Value) (w : World) (hl : VsAt w v l)
    (H : ∀ (W : World) (x : Val), x ∈ l → Below w.heap.size w W → Calls Try.prog 38 #[.agg #[.int .u8 x.k, .int .i64 x.n, .int .i64 x.b, .int .i64 x.o], c0, c1] W fun e w' => e = .returned (.bool (p x)) ∧ Below W.heap.size W w') :
    Calls Try.prog 60 #[v, .func (Fn.func 38) #[] #[c0, c1]] w fun e w' => e = .returned (.int .i64 (idxF p l)) ∧ Below w.heap.size w w' := by
  have hl' := hl
  obtain ⟨A, c, rfl, hmx, hq⟩ := hl'
  have HL := Lib.hid hl; clear hl
  have HQ := Lib.hid hq; clear hq
  have HH := Lib.hid H; clear H
  go_enter Try.func60, Try.ntmps60
  go_wp2
  go_loopw [5, 8] (fun _ i wr => ∃ k : Nat, k ≤ l.length ∧ i = .int .i64 k ∧ Below w.heap.size w wr ∧ Hid (∀ x ∈ l.take k, p x = false)) (fun _ i _ => l.length - (intOf i).toNat)
  case atStart => exact ⟨0, Nat.zero_le _, rfl, Below.refl _ _, by unfold Hid; simp⟩
  case round =>
    obtain ⟨k, hk, rfl, hb, N⟩ := hrel
    by_cases hlt : k < l.length
    · obtain ⟨g, og, rfl, hg, q0, q1, q2, q3⟩ := HL.out.get (List.getElem?_eq_getElem hlt)
      have r0 := cell_below hb q0
      have r1 := cell_below hb q1
      have r2 := cell_below hb q2
      have r3 := cell_below hb q3
      clear q0 q1 q2 q3
      go_wp2_with fail
      refine (HH.out wr l[k] (List.getElem_mem hlt) hb).mono ?_
      rintro e w1 ⟨rfl, h1⟩
      cases hp : p l[k]
      · have HP := Lib.hid hp; clear hp
        clear r0 r1 r2 r3
        go_wp2
        go_roundw
        case rel => exact ⟨k + 1, by omega, by go_num, hb.trans (h1.mono hb.size), take_none hlt N.out HP.out⟩
        case measure => simp [intOf]; omega
      · have HP := Lib.hid hp; clear hp
        go_wp2
        go_ret
        exact ⟨by rw [idxF_some hlt N.out HP.out]; rfl, hb.trans (h1.mono hb.size)⟩
    · have : k = l.length := by omega
      subst this
      go_wp2
      go_ret
      refine ⟨?_, hb⟩
      rw [List.take_length] at N
      rw [idxF_none N.out]
      rfl

theorem contains_hld (p : Val → Bool) {l : List Val} {v : Value} (c0 : Value) (c1 : Value) (w : World) (hl : VsAt w v l)
    (H : ∀ (W : World) (x : Val), x ∈ l → Below w.heap.size w W → Calls Try.prog 38 #[.agg #[.int .u8 x.k, .int .i64 x.n, .int .i64 x.b, .int .i64 x.o], c0, c1] W fun e w' => e = .returned (.bool (p x)) ∧ Below W.heap.size W w') :
    Calls Try.prog 37 #[v, .func (Fn.func 38) #[] #[c0, c1]] w fun e w' => e = .returned (.bool (l.any p)) ∧ Below w.heap.size w w' := by
  have HL := Lib.hid hl; clear hl
  have HH := Lib.hid H; clear H
  go_enter Try.func37, Try.ntmps37
  go_wp2_with fail
  (with_reducible refine (index_hld p _ _ _ HL.out HH.out).mono ?_); rintro e w1 ⟨rfl, h1⟩
  go_wp2
  go_ret
  exact ⟨ret_bool (any_idxF p l), h1⟩

theorem chk1 {m : List Blk} {v : Value} (x : Val) (gp : Nat) (w : World) (hg : gp < w.heap.size) (hp : w.cell? ⟨gp, 0, none⟩ = some v) (hm : BsAt w v m) :
    Calls Try.prog 43 #[.agg #[.int .u8 x.k, .int .i64 x.n, .int .i64 x.b, .int .i64 x.o], .pointer (some ⟨gp, 0, none⟩)] w fun e w' => e = .returned (.bool (!isB m x)) ∧ Below w.heap.size w w' := by
  have HM := Lib.hid hm
  clear hm
  go_enter Try.func43, Try.ntmps43
  go_wp2_with fail
  (with_reducible refine (is_any x _ (HM.out.below ((Below.refl _ _).alloc (Nat.le_refl _) _))).mono ?_); rintro e w1 ⟨rfl, h1⟩
  go_wp2
  go_ret
  exact ⟨rfl, ((Below.refl _ _).alloc (Nat.le_refl _) _).trans (h1.mono (by simp))⟩

theorem hld1 {m : List Blk} {v : Value} (x : Val) (gp gb : Nat) (d : Int) (w : World) (hg : gp < w.heap.size) (hp : w.cell? ⟨gp, 0, none⟩ = some v) (hgb : gb < w.heap.size) (hd : w.cell? ⟨gb, 2, none⟩ = some (.int .i64 d)) (hm : BsAt w v m) (hx : isB m x = true) :
    Calls Try.prog 38 #[.agg #[.int .u8 x.k, .int .i64 x.n, .int .i64 x.b, .int .i64 x.o], .pointer (some ⟨gp, 0, none⟩), .pointer (some ⟨gb, 0, none⟩)] w fun e w' => e = .returned (.bool (decide (d < deepB m x))) ∧ Below w.heap.size w w' := by
  have HM := Lib.hid hm
  clear hm
  have HX := Lib.hid hx
  clear hx
  go_enter Try.func38, Try.ntmps38
  go_wp2_with fail
  refine wp_world (fun W => Below w.heap.size w W ∧ w.heap.size < W.heap.size ∧ VAt W w.heap.size 0 ⟨x.k, x.n, x.b, x.o⟩ ∧ gp < W.heap.size ∧ gb < W.heap.size ∧ W.cell? ⟨gp, 0, none⟩ = some v ∧ W.cell? ⟨gb, 2, none⟩ = some (.int .i64 d)) ⟨(Below.refl _ _).alloc (Nat.le_refl _) _, by simp, by simp [VAt], by simp; omega, by simp; omega, by go_simp, by go_simp⟩ ?_
  rintro W ⟨hb, hz, ⟨q0, q1, q2, q3⟩, z1, z2, q4, q5⟩
  simp only [Nat.zero_add] at q1 q2 q3
  have HB := Lib.hid hb
  clear hp hd hg hgb hb
  have cu := upon_cell W W.heap.size
  refine wp_region_upon (by kernel_rfl) (by kernel_rfl) ?_
  repeat (go_big_quiet_step (first | (go_at_call 39; exact calls_upon (deep_any x _ ((HM.out.below HB.out).below (upon_below _ _ _)) HX.out))))
  refine wpQuiet_nil ?_
  intro W' hb'
  go_wp2
  go_ret
  exact ⟨rfl, HB.out.trans (hb'.mono HB.out.size)⟩

/-- May a block be, in a memory? -/
def blkB (m : List Blk) (b : Blk) : Bool := decide (0 ≤ b.site ∧ 0 ≤ b.ty ∧ 0 ≤ b.dep ∧ 1 ≤ b.cells.length ∧ b.cells.length ≤ 32) && b.cells.all (isB m)
def mayM (m : List Blk) : Bool := decide (m.length ≤ 4096) && m.all (blkB m)
def checkI (m : List Blk) : Int := if mayM m then 0 else 8

def mkB (m : List Blk) (k : Nat) : Bool := decide (m.length ≤ 4096) && (m.take k).all (blkB m)
theorem mkB_succ {m : List Blk} {k : Nat} (hk : k < m.length) : mkB m (k + 1) = (mkB m k && blkB m m[k]) := by
  unfold mkB
  rw [List.take_succ_eq_append_getElem hk, List.all_append]
  simp [Bool.and_assoc]
theorem mkB_all (m : List Blk) : mkB m m.length = mayM m := by unfold mkB mayM; rw [List.take_length]
theorem ret_int {k : IntKind} {a b : Int} (h : a = b) : Ending.returned (.int k a) = .returned (.int k b) := by rw [h]
theorem val_bool {a b : Bool} (h : a = b) : Value.bool a = .bool b := by rw [h]
theorem blk_not {m : List Blk} {b : Blk} (h : ¬ (0 ≤ b.site ∧ 0 ≤ b.ty ∧ 0 ≤ b.dep ∧ 1 ≤ b.cells.length ∧ b.cells.length ≤ 32)) : blkB m b = false := by
  simp only [blkB, Bool.and_eq_false_iff, decide_eq_false_iff_not]
  exact .inl h
theorem not_any (l : List Val) (p : Val → Bool) : (!l.any fun x => !p x) = l.all p := by
  induction l with
  | nil => rfl
  | cons x l ih => simp only [List.any_cons, List.all_cons, Bool.not_or, Bool.not_not, ih]

set_option maxHeartbeats 4000000 in
theorem check_any {m : List Blk} {v : Value} (w : World) (hm : BsAt w v m) :
    Calls Try.prog 22 #[v] w fun e w' => e = .returned (.int .i64 (checkI m)) ∧ Below w.heap.size w w' := by
  have hm' := hm
  obtain ⟨A, c, rfl, hl, hq⟩ := hm'
  have HM := Lib.hid hm; clear hm
  clear hq
  go_enter Try.func22, Try.ntmps22
  go_wp2
  refine wp_world (fun W => Below w.heap.size w W ∧ w.heap.size < W.heap.size ∧ W.cell? ⟨w.heap.size, 0, none⟩ = some (.slice A m.length c)) ⟨(Below.refl _ _).alloc (Nat.le_refl _) _, by simp, by simp⟩ ?_
  rintro W ⟨hwb, hz, hp⟩
  have HW := Lib.hid hwb; clear hwb
  have HM2 := Lib.hid (HM.out.below HW.out); clear HM
  have P0 := Lib.hid hp; clear hp
  go_loopw [3, 5, 11] (fun p _ i wr => ∃ k : Nat, k ≤ m.length ∧ i = .int .i64 k ∧ p = .bool (mkB m k) ∧ Below W.heap.size W wr) (fun _ _ i _ => m.length - (intOf i).toNat)
  case atStart => exact ⟨0, Nat.zero_le _, rfl, val_bool (by unfold mkB; simp; omega), Below.refl _ _⟩
  case round =>
    obtain ⟨k, hk, rfl, rfl, hb⟩ := hrel
    have HB := Lib.hid hb; clear hb
    by_cases hlt : k < m.length
    · obtain ⟨g, og, rfl, hg, q0, q1, q2, q3, hv, q4, h5⟩ := HM2.out.get (List.getElem?_eq_getElem hlt)
      obtain ⟨Ai, ci, rfl, hl5, hx5⟩ := h5
      have H5 : Hid (VsAt W (.slice Ai m[k].cells.length ci) m[k].cells) := ⟨Ai, ci, rfl, hl5, hx5⟩
      clear hx5
      have r0 := cell_below HB.out q0
      have r1 := cell_below HB.out q1
      have r2 := cell_below HB.out q2
      have r3 := cell_below HB.out q3
      have r4 := cell_below HB.out q4
      have hgr : g < wr.heap.size := Nat.lt_of_lt_of_le hg HB.out.size
      clear q0 q1 q2 q3 q4
      cases hmk : mkB m k
      · have EB : Hid ((mkB m k && blkB m m[k]) = false) := by unfold Hid; rw [hmk]; rfl
        clear hmk
        go_wp2
        go_roundw
        case rel => exact ⟨k + 1, by omega, by go_num, val_bool (by rw [mkB_succ hlt, EB.out]), HB.out.alloc HB.out.size _⟩
        case measure => simp [intOf]; omega
      have MK := Lib.hid hmk; clear hmk
      by_cases hgood : 0 ≤ m[k].site ∧ 0 ≤ m[k].ty ∧ 0 ≤ m[k].dep ∧ 1 ≤ m[k].cells.length ∧ m[k].cells.length ≤ 32
      · obtain ⟨g0, g1, g2, g3, g4⟩ := hgood
        have EB : Hid ((mkB m k && blkB m m[k]) = m[k].cells.all (isB m)) := by
          unfold Hid
          rw [MK.out, Bool.true_and, blkB, decide_eq_true ⟨g0, g1, g2, g3, g4⟩, Bool.true_and]
        go_wp2_with fail
        refine (contains_chk (fun x => !isB m x) _ _ ((H5.out.below HB.out).below ((Below.refl _ _).alloc (Nat.le_refl _) _)) ?hcl).mono ?_
        case hcl =>
          intro W' x hx hW'
          have hb1 : Below W.heap.size W W' := (HB.out.alloc HB.out.size _).trans (hW'.mono (Nat.le_trans HB.out.size (by simp)))
          exact chk1 x w.heap.size W' (Nat.lt_of_lt_of_le hz hb1.size) (cell_below hb1 P0.out) (HM2.out.below hb1)
        rintro e w1 ⟨rfl, h1⟩
        clear r0 r1 r2 r3 r4
        go_wp2
        go_roundw
        case rel => exact ⟨k + 1, by omega, by go_num, val_bool (by rw [mkB_succ hlt, EB.out, not_any]), (HB.out.alloc HB.out.size _).trans (h1.mono (Nat.le_trans HB.out.size (by simp)))⟩
        case measure => simp [intOf]; omega
      · have EB : Hid ((mkB m k && blkB m m[k]) = false) := by unfold Hid; rw [blk_not hgood, Bool.and_false]
        by_cases g0 : 0 ≤ m[k].site
        · by_cases g1 : 0 ≤ m[k].ty
          · by_cases g2 : 0 ≤ m[k].dep
            · by_cases g3 : 1 ≤ m[k].cells.length
              · have g4 : ¬ m[k].cells.length ≤ 32 := by omega
                clear hgood
                go_wp2
                go_roundw
                case rel => exact ⟨k + 1, by omega, by go_num, val_bool (by rw [mkB_succ hlt, EB.out]), HB.out.alloc HB.out.size _⟩
                case measure => simp [intOf]; omega
              · clear hgood
                go_wp2
                go_roundw
                case rel => exact ⟨k + 1, by omega, by go_num, val_bool (by rw [mkB_succ hlt, EB.out]), HB.out.alloc HB.out.size _⟩
                case measure => simp [intOf]; omega
            · clear hgood
              go_wp2
              go_roundw
              case rel => exact ⟨k + 1, by omega, by go_num, val_bool (by rw [mkB_succ hlt, EB.out]), HB.out.alloc HB.out.size _⟩
              case measure => simp [intOf]; omega
          · clear hgood
            go_wp2
            go_roundw
            case rel => exact ⟨k + 1, by omega, by go_num, val_bool (by rw [mkB_succ hlt, EB.out]), HB.out.alloc HB.out.size _⟩
            case measure => simp [intOf]; omega
        · clear hgood
          go_wp2
          go_roundw
          case rel => exact ⟨k + 1, by omega, by go_num, val_bool (by rw [mkB_succ hlt, EB.out]), HB.out.alloc HB.out.size _⟩
          case measure => simp [intOf]; omega
    · have : k = m.length := by omega
      subst this
      cases hmk : mkB m m.length
      · have MK := Lib.hid hmk; clear hmk
        go_wp2
        go_ret
        refine ⟨ret_int ?_, HW.out.trans (HB.out.mono HW.out.size)⟩
        unfold checkI
        rw [← mkB_all, MK.out]
        rfl
      · have MK := Lib.hid hmk; clear hmk
        go_wp2
        go_ret
        refine ⟨ret_int ?_, HW.out.trans (HB.out.mono HW.out.size)⟩
        unfold checkI
        rw [← mkB_all, MK.out]
        rfl

end Go.Proofs.Ytmelamlngjflkaa

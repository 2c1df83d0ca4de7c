/- KnotNames: the errors' numbers, and more examples; the call answers true, and what is handed in reads as before. No condition. -/
import Derived.Test.YtkmbjpgpkgeiaaaRows
import Derived.WalkKit
import Derived.ProofKit
import Derived.OpenShut
import Derived.Below
import Derived.Outline
import Derived.LoopTactic
import Derived.Lib.Hide
import Derived.WalkSpells
import Derived.RegionTactic
import Derived.BigRegion
import Derived.Deep.QuietTactic
import Derived.BigQuiet
import Derived.Deep.RegionWith
import Derived.Test.YtkmbjpgpkgeiaaaO
import Derived.Test.YtkmbjpgpkgeiaaaG
import Derived.Test.YtkmbjpgpkgeiaaaF1
import Derived.Test.YtkmbjpgpkgeiaaaH3
import Derived.Laws.MakeOwn
namespace Go.Proofs.Ytkmbjpgpkgeiaaa.knotNames
open Go.Joins Go.ChangeShapes Go.WideShapes Go.ChangeAt Go.RowKit Go.Deep
set_option linter.unusedVariables false

theorem great_at {l : List (Int × Int)} {v : Value} {n : Int} {b : Bool} (h : greatB n l = b) (w : World) (hl : EsAt w v l) : Calls Try.prog 9 #[.int .i64 n, v] w fun e w' => e = .returned (.bool b) ∧ w = w' := by
  subst h
  exact great_any n w hl
theorem is_form {w : World} {v : Value} {l : List Int} {N : Nat} (h : IsAt w v l) (hl : l.length = N) : ∃ A c, v = .slice A N c := by
  obtain ⟨A, c, rfl, _, _⟩ := h
  exact ⟨A, c, by rw [hl]⟩
def TrueP (w : World) (e : Ending) (w' : World) : Prop := e = .returned (.bool true) ∧ Below w.heap.size w w'

theorem h_err {n c : Int} {l : List (Int × Int)} {v : Value} {w : World} (hc : chkI n l = c) (h : EsAt w v l) : Calls Try.prog 10 #[.int .i64 n, v] w fun e w' => (∃ x, e = .returned (.tuple #[x, .int .i64 c])) ∧ Below w.heap.size w w' :=
  (heads_any n w h).mono (fun e w' => by
    rintro ⟨x, xs, rfl, _, h2, _⟩
    exact ⟨⟨x, by rw [hc]⟩, h2⟩)
theorem r_err {n c : Int} {l : List (Int × Int)} {v : Value} {w : World} (hc : chkI n l = c) (h : EsAt w v l) : Calls Try.prog 12 #[.int .i64 n, v] w fun e w' => (∃ x, e = .returned (.tuple #[x, .int .i64 c])) ∧ Below w.heap.size w w' :=
  (ranks_any n w h).mono (fun e w' => by
    rintro ⟨x, xs, rfl, _, h2, _⟩
    exact ⟨⟨x, by rw [hc]⟩, h2⟩)
theorem h_zero {w : World} (h : EsAt w (.slice none 0 0) []) : Calls Try.prog 10 #[.int .i64 0, .slice none 0 0] w fun e w' => (∃ A c, e = .returned (.tuple #[.slice A 0 c, .int .i64 0])) ∧ Below w.heap.size w w' :=
  (heads_any 0 w h).mono (fun e w' => by
    rintro ⟨x, xs, rfl, hx, h2, _, hh⟩
    obtain ⟨A, c, rfl⟩ := is_form hx (hh 0 rfl (by decide)).1
    exact ⟨⟨A, c, by rw [show chkI 0 [] = 0 by decide]⟩, h2⟩)
theorem t_err {n a c : Int} {l : List (Int × Int)} {v : Value} {w : World} (hc : tieI n l a = c) (h0 : c ≠ 0) (h : EsAt w v l) : Calls Try.prog 13 #[.int .i64 n, v, .int .i64 a] w fun e w' => e = .returned (.tuple #[.bool false, .int .i64 c]) ∧ Below w.heap.size w w' :=
  (tied_any n a w h).mono (fun e w' => by
    rintro ⟨b, rfl, h2, hn, _⟩
    rw [hn (by rw [hc]; exact h0), hc]
    exact ⟨rfl, h2⟩)
theorem t_ok (N A : Nat) {n a : Int} {b : Bool} {l : List (Int × Int)} {v : Value} {w : World} (hn : n = (N : Int)) (ha : a = (A : Int)) (hc : tieI n l a = 0) (hb : (∃ p ∈ toN l, p.1 = A ∧ Reach (toL (toN l)) p.2 A) ↔ b = true) (h : EsAt w v l) : Calls Try.prog 13 #[.int .i64 n, v, .int .i64 a] w fun e w' => e = .returned (.tuple #[.bool b, .int .i64 0]) ∧ Below w.heap.size w w' :=
  (tied_any n a w h).mono (fun e w' => by
    rintro ⟨c, rfl, h2, _, hh⟩
    have h1 : c = true ↔ b = true := (hh N A hn ha hc).trans hb
    have e : c = b := by cases b <;> cases c <;> simp_all
    rw [e, hc]
    exact ⟨rfl, h2⟩)
theorem ch_t1 : (∃ p ∈ toN chL, p.1 = 1 ∧ Reach (toL (toN chL)) p.2 1) ↔ true = true := by
  rw [ch_toN]
  exact ⟨fun _ => rfl, fun _ => ⟨(1, 2), by decide, rfl, ch_12.2⟩⟩
theorem ch_t0 : (∃ p ∈ toN chL, p.1 = 0 ∧ Reach (toL (toN chL)) p.2 0) ↔ false = true := by
  rw [ch_toN]
  constructor
  · rintro ⟨p, hp, e, hr⟩
    have := ch_reach hr
    simp only [chN, List.mem_cons, List.not_mem_nil, or_false] at hp
    rcases hp with rfl | rfl | rfl | rfl
    · simp [chS] at this
    · cases e
    · cases e
    · cases e
  · intro h; cases h
theorem one_t : (∃ p ∈ toN [((0 : Int), (0 : Int))], p.1 = 0 ∧ Reach (toL (toN [((0 : Int), (0 : Int))])) p.2 0) ↔ true = true :=
  ⟨fun _ => rfl, fun _ => ⟨(0, 0), by decide, rfl, .refl 0⟩⟩
theorem one_es (w : World) (a b : Int) : EsAt (w.alloc (.cells #[.int .i64 a, .int .i64 b] 32)) (.slice (some ⟨w.heap.size, 0, none⟩) 1 1) [(a, b)] := by
  refine ⟨_, _, rfl, by simp, fun k x hk => ⟨w.heap.size, 0, rfl, ?_, ?_⟩⟩
  · match k, hk with
    | 0, hk => (injection hk with hk; subst hk; simp)
  · match k, hk with
    | 0, hk => (injection hk with hk; subst hk; simp)
theorem made_get (a : Value) (m j : Nat) (h : j < m) : (madeCells #[a, a] m)[j]? = some a := by
  have hs : j < (madeCells #[a, a] m).size := by rw [size_madeCells]; exact h
  rw [Array.getElem?_eq_getElem hs]
  have : j % 2 = 0 ∨ j % 2 = 1 := by omega
  rcases this with e | e <;> simp [madeCells, e]
theorem info32 : (Try.prog.info? 32).map (fun i => (i.zero, i.size, i.bytes)) = some (some (.agg #[.int .i64 0, .int .i64 0]), 2, 16) := by kernel_rfl
theorem big_run (w : World) : (Instr.makeSlice 22 (.int .i64 10001) (.int .i64 10001)).run Try.prog w = .ok (.slice (some ⟨w.heap.size, 0, none⟩) 10001 10001) (w.alloc (.cells (madeCells #[.int .i64 0, .int .i64 0] 20002) 32)) := by
  obtain ⟨i, hi, hz0, hz1, hz2⟩ := info_parts info32
  have hr := run_make (P := Try.prog) w 22 32 i _ Try.underlying22 hi hz0 .i64 .i64 10001 10001 (by decide) (by decide) (by rw [hz2]; decide) (by decide)
  rw [hr, hz1]
  rfl
def bigL : List (Int × Int) := List.replicate 10001 (0, 0)
theorem big_chk : chkI 1 bigL = 4 := by
  unfold chkI
  rw [if_pos (.inr (by unfold bigL; rw [List.length_replicate]; decide))]
theorem big_es (w : World) : EsAt (w.alloc (.cells (madeCells #[.int .i64 0, .int .i64 0] 20002) 32)) (.slice (some ⟨w.heap.size, 0, none⟩) 10001 10001) bigL := by
  refine ⟨_, 10001, by unfold bigL; rw [List.length_replicate], by unfold bigL; rw [List.length_replicate]; decide, fun k x hk => ⟨w.heap.size, 0, rfl, ?_, ?_⟩⟩
  all_goals
    have hkl := (List.getElem?_eq_some_iff.1 hk).1
    unfold bigL at hk hkl
    rw [List.length_replicate] at hkl
    rw [List.getElem?_replicate, if_pos hkl] at hk
    injection hk with hk
    subst hk
    have hh := heap_alloc_new w (.cells (madeCells #[.int .i64 0, .int .i64 0] 20002) 32)
  · rw [cell_of_row _ _ _ _ _ _ hh]
    exact made_get _ _ _ (by omega)
  · rw [cell_of_row _ _ _ _ _ _ hh]
    exact made_get _ _ _ (by omega)

set_option maxRecDepth 100000 in
set_option maxHeartbeats 16000000 in
theorem core (w : World) : Calls Try.prog 5 #[] w (TrueP w) := by
  have BX : Hid (Below w.heap.size w w) := Below.refl _ _
  have hbig := big_run
  go_enter Try.func5, Try.ntmps5
  go_wp2_with fail
  (with_reducible refine (h_err (n := 1001) (c := 4) (by decide) (es_nil _)).mono ?_); rintro e w' ⟨⟨x1, rfl⟩, h⟩
  have BX := Lib.hid (BX.out.trans (h.mono BX.out.size)); clear h
  go_wp2_with fail
  (with_reducible refine (r_err (n := 2) (c := 2) (l := [(0, 2)]) (by decide) (one_es _ 0 2)).mono ?_); rintro e w' ⟨⟨x2, rfl⟩, h⟩
  have BX := Lib.hid (Below.trans (Below.alloc BX.out BX.out.size _) (h.mono (by have := BX.out.size; simp; omega))); clear h
  go_wp2_with fail
  (with_reducible refine (h_err (n := -1) (c := 2) (by decide) (es_nil _)).mono ?_); rintro e w' ⟨⟨x3, rfl⟩, h⟩
  have BX := Lib.hid (BX.out.trans (h.mono BX.out.size)); clear h
  go_wp2_with fail
  (with_reducible refine (t_err (n := 2) (a := 2) (c := 2) (by decide) (by decide) (es_nil _)).mono ?_); rintro e w' ⟨rfl, h⟩
  have BX := Lib.hid (BX.out.trans (h.mono BX.out.size)); clear h
  go_wp2_with fail
  (with_reducible refine (chapter_any _).mono ?_); rintro e w' ⟨⟨v1, rfl, hes⟩, h⟩
  have BX := Lib.hid (BX.out.trans (h.mono BX.out.size)); clear h
  go_wp2_with fail
  (with_reducible refine (t_ok 4 1 (n := 4) (a := 1) (b := true) rfl rfl (by decide) ch_t1 hes).mono ?_); rintro e w' ⟨rfl, h⟩
  have BX := Lib.hid (BX.out.trans (h.mono BX.out.size)); clear h
  clear hes
  go_wp2_with fail
  (with_reducible refine (chapter_any _).mono ?_); rintro e w' ⟨⟨v2, rfl, hes⟩, h⟩
  have BX := Lib.hid (BX.out.trans (h.mono BX.out.size)); clear h
  go_wp2_with fail
  (with_reducible refine (t_ok 4 0 (n := 4) (a := 0) (b := false) rfl rfl (by decide) ch_t0 hes).mono ?_); rintro e w' ⟨rfl, h⟩
  have BX := Lib.hid (BX.out.trans (h.mono BX.out.size)); clear h
  clear hes
  go_wp2_with fail
  (with_reducible refine (t_ok 1 0 (n := 1) (a := 0) (b := true) (l := [(0, 0)]) rfl rfl (by decide) one_t (one_es _ 0 0)).mono ?_); rintro e w' ⟨rfl, h⟩
  have BX := Lib.hid (Below.trans (Below.alloc BX.out BX.out.size _) (h.mono (by have := BX.out.size; simp; omega))); clear h
  go_wp2_with fail
  (with_reducible refine (h_zero (es_nil _)).mono ?_); rintro e w' ⟨⟨A0, c0, rfl⟩, h⟩
  have BX := Lib.hid (BX.out.trans (h.mono BX.out.size)); clear h
  go_wp2_with fail
  (with_reducible refine (h_err (n := 1) (c := 4) big_chk (big_es _)).mono ?_); rintro e w' ⟨⟨x5, rfl⟩, h⟩
  have BX := Lib.hid (Below.trans (Below.alloc BX.out BX.out.size _) (h.mono (by have := BX.out.size; simp; omega))); clear h
  go_wp2_with fail
  (with_reducible refine (alive_any _).mono ?_); rintro e w' ⟨rfl, h⟩
  have BX := Lib.hid (BX.out.trans (h.mono BX.out.size)); clear h
  go_wp2
  go_ret
  exact ⟨rfl, BX.out⟩

/-! ### THE ROW's STEP -/
theorem own : ownKnob Try.prog.godebug = none := by kernel_rfl

theorem laidOut : laidOutB Try.prog = true := by kernel_rfl

set_option maxRecDepth 100000 in
theorem lifted (os : Os) (started : os.Started) (H : Type) (enc : TypeId × Value → H) :
    ReturnsInHanded {} Try.checked os 5 .any (Rows.knotNamesSpec.pre6 enc Try.prog Try.f5 Rows.knotNamesRow.domain false) (Rows.knotNamesSpec.post enc Try.prog Try.f5 false true false false) := by
  refine returnsInHanded_of_change (C := Try.checked) own started (by kernel_rfl) Try.func5
    (ChangeSpec.witness6 (enc := enc) (C := Try.checked) false ⟨#[], #[], []⟩ 8 (by kernel_rfl) (by kernel_rfl) (by kernel_rfl) (by kernel_rfl)) ?_
  intro W base args ds gs before hval0 hW hcnd _
  have hval : ∀ (j : Nat) t v, Try.f5.params[j]? = some t → args[j]? = some v → Value.okWide Try.prog W .any base t v := hval0
  have hW' := hW
  obtain ⟨p, q, hA0, hV, rfl, hfz, hnd⟩ := hW
  have hA : DataW.TrodAll enc Try.prog W 0 (fun _ => true) true Try.f5.params.toList args.toList ds p := hA0
  rw [Try.params5] at hA hval
  obtain ⟨hargs, rfl, rfl⟩ := trodAll_nil hA
  obtain rfl : args = #[] := by cases args; simp_all
  obtain ⟨rfl, rfl⟩ := trodVars_none hV
  refine (core W).mono fun e W' ⟨he, hg⟩ => ?_
  subst he
  exact ⟨_, rfl, law_post laidOut (by
    intro t ht
    simp [Try.params5] at ht) rfl rfl Try.underlying4 rfl hW' hg⟩

theorem over : Rows.knotNamesRow.holds Try.pinned (OpenSpec.ofChange Rows.knotNamesSpec) :=
  OpenClaim.holds_of_wide 5 Try.f5 rfl rfl rfl rfl rfl rfl rfl ⟨rfl, rfl, rfl, rfl, rfl⟩ rfl rfl rfl rfl rfl (by kernel_rfl) Try.func5 (by kernel_rfl)
    (of_decide_eq_true (by kernel_rfl)) (by unfold Func.isWrapper; first | (rw [if_pos (by decide +kernel)]; kernel_rfl) | (rw [if_neg (by decide +kernel)]; exact ⟨rfl, rfl⟩))
    (fun os started H enc _ => lifted os started H enc)

theorem proved : Rows.KnotNamesSaid :=
  over
#print axioms proved

end Go.Proofs.Ytkmbjpgpkgeiaaa.knotNames

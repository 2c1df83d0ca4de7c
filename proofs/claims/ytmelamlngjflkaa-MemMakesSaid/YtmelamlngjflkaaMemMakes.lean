/- MemMakes: what is made, and what frames' ends leave, or the errors, are the document's, at every memory, place, and kinds; they stay, and what is answered is new memory; the call answers true, and what is handed in reads as before. No condition. -/
import Derived.Test.YtmelamlngjflkaaRows
import Derived.WalkKit
import Derived.ProofKit
import Derived.OpenShut
import Derived.Below
import Derived.Outline
import Derived.LoopTactic
import Derived.Test.YtmelamlngjflkaaRep
import Derived.Test.YtmelamlngjflkaaU
import Derived.Test.YtmelamlngjflkaaP10
import Derived.Test.YtmelamlngjflkaaP7
import Derived.Test.YtmelamlngjflkaaO2
import Derived.Test.YtmelamlngjflkaaT
import Derived.Laws.BytesString
import Derived.Lib.Hide
import Derived.RegionTactic
import Derived.BigRegion
import Derived.Deep.RegionWith
namespace Go.Proofs.Ytmelamlngjflkaa.memMakes
open Go.Joins Go.ChangeShapes Go.WideShapes Go.ChangeAt Go.RowKit Go.Deep

theorem great_at {m : List Blk} {v : Value} {b : Bool} (h : greatB m = b) (w : World) (hm : BsAt w v m) : Calls Try.prog 13 #[v] w fun e w' => e = .returned (.bool b) ∧ w = w' := by
  subst h
  exact great_any w hm
theorem great_small {m : List Blk} (h : greatB m = false) : m.length ≤ 4096 ∧ ∀ b ∈ m, b.cells.length ≤ 40 := by
  unfold greatB at h
  rw [Bool.or_eq_false_iff, List.any_eq_false] at h
  have h2 : m.length ≤ 40 := by simpa using h.2
  refine ⟨by omega, fun b hb => ?_⟩
  have := h.1 b (by rwa [List.take_of_length_le (by omega)])
  simpa using this
theorem rsame_at {l m : List Blk} {v u : Value} {b : Bool} (w : World) (hl : BsAt w v l) (hm : BsAt w u m) (h : decide (l = m) = b) : Calls Try.prog 26 #[v, u] w fun e w' => e = .returned (.bool b) ∧ Below w.heap.size w w' := by
  subst h
  exact rsame_any w hl hm

abbrev Small (m : List Blk) : Prop := m.length ≤ 4096 ∧ ∀ b ∈ m, b.cells.length ≤ 40
theorem small_nil : Small [] := ⟨by simp, by simp⟩
theorem small_shape {m m' : List Blk} (h : Small m) (s : Shape m m') : Small m' := by
  refine ⟨by rw [s.1]; exact h.1, fun b hb => ?_⟩
  obtain ⟨i, hi⟩ := List.mem_iff_getElem?.1 hb
  have hil := (List.getElem?_eq_some_iff.1 hi).1
  rw [s.1] at hil
  obtain ⟨b', h1, h2, _⟩ := s.2 i _ (List.getElem?_eq_getElem hil)
  rw [hi] at h1
  injection h1 with h1
  subst h1
  rw [h2]
  exact h.2 _ (List.getElem_mem hil)

theorem great_len {m : List Blk} (h : greatB m = false) : m.length ≤ 40 := by
  unfold greatB at h
  rw [Bool.or_eq_false_iff] at h
  simpa using h.2
theorem small_new {m : List Blk} (h : Small m) (h40 : m.length ≤ 40) (site ty d : Int) (l : List Int) : Small (newR m site ty d l) := by
  unfold newR
  split
  · rename_i h0
    have h1 := new_zero h0
    refine ⟨by simp; omega, fun b hb => ?_⟩
    rw [List.mem_append] at hb
    rcases hb with hb | hb
    · exact h.2 b hb
    · simp at hb
      subst hb
      simp [newB]
      omega
  · exact small_nil
theorem small_pop {m : List Blk} (h : Small m) (d : Int) : Small (popR m d) := by
  unfold popR
  split
  · exact small_shape h (popped_shape m d)
  · exact small_nil
theorem rnew_at {m : List Blk} {v lv : Value} {l : List Int} {r : List Blk} {p : Val} {i : Int} (site ty d : Int) (w : World) (hm : BsAt w v m) (hl : KsAt w lv l) (hlx : l.length ≤ 40) (hr : newR m site ty d l = r) (hp : newV m site ty d l = p) (hi : newI m site ty d l = i) :
    Calls Try.prog 24 #[v, .int .i64 site, .int .i64 ty, .int .i64 d, lv] w (NewP r p i w) := by
  subst hr hp hi
  exact rnew_any site ty d w hm hl hlx
theorem rpop_at {m : List Blk} {v : Value} {r : List Blk} {i : Int} (d : Int) (w : World) (hm : BsAt w v m) (hr : popR m d = r) (hi : popI m d = i) : Calls Try.prog 25 #[v, .int .i64 d] w (MadeP r i w) := by
  subst hr hi
  exact rpop_any d w hm
theorem info5 : (Try.prog.info? 5).map (fun i => (i.zero, i.size, i.bytes)) = some (some (.int .u8 0), 1, 1) := by kernel_rfl
def strOf (l : List Int) : ByteArray := l.foldl (fun r n => r.push (UInt8.ofNat n.toNat)) ByteArray.empty
theorem conv_ks {w : World} {v : Value} {l : List Int} (h : KsAt w v l) : (convert 35 9 v).run Try.prog w = .ok (.string (strOf l)) w := by
  obtain ⟨A, c, rfl, _, _, hx⟩ := h
  rw [run_convert_bytes_string w 35 9 5 A l.length c Try.underlying35 Try.underlying5 Try.underlying9]
  cases A with
  | none =>
    have h0 : l = [] := by
      cases l with
      | nil => rfl
      | cons k r =>
        obtain ⟨g, o, e, _⟩ := hx 0 k rfl
        cases e
    subst h0
    simp [Conv.bytesToString, strOf]
  | some a =>
    refine run_bytesToString w a l.length c l ?_
    have := run_loadCells_list (P := Try.prog) w a (l.map (Value.int .u8)) (by
      intro j u hj
      rw [List.getElem?_map, Option.map_eq_some_iff] at hj
      obtain ⟨k, hk, rfl⟩ := hj
      obtain ⟨g, o, e, hc⟩ := hx j k hk
      injection e with e
      subst e
      rw [add_at]
      exact hc)
    simpa using this
theorem ks_own {base : Nat} {w : World} {A : Option Addr} {c : Nat} {l : List Int} (h : w.ownsRow base 5 1 (.slice A l.length c) l.length (l.map (Value.int .u8))) (h0 : ∀ k ∈ l, 0 ≤ k) (hl : l.length ≤ 9223372036854775807) : KsAt w (.slice A l.length c) l := by
  refine ⟨A, c, rfl, hl, h0, fun i k hk => ?_⟩
  have hi := (List.getElem?_eq_some_iff.1 hk).1
  rcases h.2 with ⟨_, hn⟩ | ⟨g, cap, cur, hv, _⟩
  · omega
  · injection hv with e _ _
    subst e
    refine ⟨g, 0, rfl, ?_⟩
    rw [Nat.zero_add, h.cellAt i (by omega), List.getElem?_map, hk]
    rfl
theorem ks_src {w : World} {A : Option Addr} {c n : Nat} {l : List Int} (h : KsAt w (.slice A n c) l) : ∀ j u, (l.map (Value.int .u8))[j]? = some u → ∃ g o, A = some ⟨g, o, none⟩ ∧ w.cell? ⟨g, o + j, none⟩ = some u := by
  intro j u hj
  rw [List.getElem?_map, Option.map_eq_some_iff] at hj
  obtain ⟨k, hk, rfl⟩ := hj
  obtain ⟨g, o, e, _, _, hc⟩ := h.get hk
  exact ⟨g, o, e, hc⟩

section
variable {H : Type} {enc : TypeId × Value → H} {w : World} {spare : Nat → Bool} {held : Bool}
theorem open_place {b0 base : Nat} {v : Value} {d : DataW H} {p : List MemPlace} (hv : Value.okWide Try.prog w .any b0 49 v) (h : DataW.Trod enc Try.prog w base spare held 49 v d p) : ∃ s k n : Int, v = .agg #[.int .i64 s, .int .i64 k, .int .i64 n] := by
  obtain ⟨v0, v1, v2, y0, y1, y2, n, rfl, _, _, h0, h1, h2⟩ := open_agg3 Try.underlying49 (by kernel_rfl) (by kernel_rfl) hv h
  obtain ⟨a0, e0, _, _⟩ := DataW.trod_int Try.underlying3 h0
  obtain ⟨a1, e1, _, _⟩ := DataW.trod_int Try.underlying3 h1
  obtain ⟨a2, e2, _, _⟩ := DataW.trod_int Try.underlying3 h2
  injection e0 with e0
  injection e1 with e1
  injection e2 with e2
  subst e0 e1 e2
  exact ⟨a0, a1, a2, rfl⟩
end

set_option maxRecDepth 100000 in
set_option maxHeartbeats 4000000 in
theorem core {m : List Blk} {v lv : Value} {l : List Int} (site ty d : Int) (w : World) (hm : BsAt w v m) (hl : KsAt w lv l) : Calls Try.prog 5 #[v, .agg #[.int .i64 site, .int .i64 ty, .int .i64 d], lv] w fun e w' => e = .returned (.bool true) ∧ Below w.heap.size w w' := by
  have HM := Lib.hid hm; clear hm
  have hl' := hl
  obtain ⟨Al, cl, rfl, hlm, hl0, _⟩ := hl'
  have HL := Lib.hid hl; clear hl
  have HL0 := Lib.hid hl0; clear hl0
  obtain ⟨i0, hi, hzz⟩ := Option.map_eq_some_iff.1 info5
  simp only [Prod.mk.injEq] at hzz
  obtain ⟨hz0, hz1, hz2⟩ := hzz
  have HI := Lib.hid hi; clear hi
  have HZ0 := Lib.hid hz0; clear hz0
  have HZ1 := Lib.hid hz1; clear hz1
  have HZ2 := Lib.hid hz2; clear hz2
  go_enter Try.func5, Try.ntmps5
  have HB : Hid (Below w.heap.size w w) := Lib.hid (Below.refl _ _)
  cases hg : greatB m
  · go_wp2_with fail
    (with_reducible refine (great_at hg _ (HM.out.below (by repeat (first | exact Below.refl _ _ | (with_reducible refine Below.drew ?_) | refine Below.setCell ?_ (by simp) _ | refine Below.alloc ?_ (by simp <;> omega) _)))).mono ?_); rintro e _ ⟨rfl, rfl⟩
    by_cases h40 : 40 < l.length
    · go_wp2
      go_ret
      exact ⟨rfl, (by repeat (first | exact Below.refl _ _ | (with_reducible refine Below.drew ?_) | refine Below.setCell ?_ (by simp) _ | refine Below.alloc ?_ (by simp <;> omega) _))⟩
    · have HS : Hid (Small m) := great_small hg
      have HG4 := Lib.hid (great_len hg)
      have HLX : Hid (l.length ≤ 40) := by unfold Hid; omega
      obtain ⟨r1, hr1⟩ : ∃ r, newR m site ty d l = r := ⟨_, rfl⟩
      obtain ⟨p1, hp1⟩ : ∃ r, newV m site ty d l = r := ⟨_, rfl⟩
      obtain ⟨i1, hi1⟩ : ∃ i, newI m site ty d l = i := ⟨_, rfl⟩
      obtain ⟨r2, hr2⟩ : ∃ r, popR m d = r := ⟨_, rfl⟩
      obtain ⟨i2, hi2⟩ : ∃ i, popI m d = i := ⟨_, rfl⟩
      obtain ⟨str, hstr⟩ : ∃ s, strOf l = s := ⟨_, rfl⟩
      have S1 : Hid (Small r1) := hr1 ▸ small_new HS.out HG4.out site ty d l
      have S2 : Hid (Small r2) := hr2 ▸ small_pop HS.out d
      have R1 := Lib.hid hr1; have P1 := Lib.hid hp1; have I1 := Lib.hid hi1; have R2 := Lib.hid hr2; have I2 := Lib.hid hi2; have ST := Lib.hid hstr
      clear hr1 hp1 hi1 hr2 hi2 hstr hg
      go_wp2_with fail
      (with_reducible refine (rtwin_any _ (HM.out.below (by repeat (first | exact Below.refl _ _ | (with_reducible refine Below.drew ?_) | refine Below.setCell ?_ (by simp) _ | refine Below.alloc ?_ (by simp <;> omega) _))) HS.out.1 HS.out.2).mono ?_); rintro e w1 ⟨v1, rfl, lay, b⟩
      have HW0 := Lib.hid lay.reads; clear lay
      have HW := Lib.hid (show Below w.heap.size w w1 from Below.trans (by repeat (first | exact Below.refl _ _ | (with_reducible refine Below.drew ?_) | refine Below.setCell ?_ (by simp) _ | refine Below.alloc ?_ (by simp <;> omega) _)) (b.mono (by simp <;> omega)))
      have q0 : w1.cell? ⟨w.heap.size, 0, none⟩ = some (.int .i64 site) := cell_below b (by first | (simp; done) | go_simp)
      have q1 : w1.cell? ⟨w.heap.size, 1, none⟩ = some (.int .i64 ty) := cell_below b (by first | (simp; done) | go_simp)
      have q2 : w1.cell? ⟨w.heap.size, 2, none⟩ = some (.int .i64 d) := cell_below b (by first | (simp; done) | go_simp)
      have qs : w.heap.size < w1.heap.size := World.block_lt_of_cell? w1 _ q0
      replace HM := Lib.hid (HM.out.below HW.out)
      replace HL := Lib.hid (HL.out.below HW.out)
      replace HB := Lib.hid (HB.out.trans (HW.out.mono HB.out.size))
      clear HW b
      have KM := Lib.hid HM.out; have KW := Lib.hid HW0.out; have KB := Lib.hid HB.out; have SB : Hid (Below w1.heap.size w1 w1) := Below.refl _ _
      have hlit : Hid ((w1.alloc (.cells #[] 5)).ownsRow w1.heap.size 5 1 (.slice (some ⟨w1.heap.size, 0, none⟩) 0 0) 0 []) := World.ownsRow_lit w1 #[] 0 (Nat.le_refl _) (by decide) rfl
      have hsrc := Lib.hid (ks_src (HL.out.below ((Below.refl w1.heap.size w1).alloc (Nat.le_refl _) (.cells #[] 5))))
      have hone : Hid (∀ u ∈ l.map (Value.int .u8), u.oneCell' = true) := by
        intro u hu
        simp only [List.mem_map] at hu
        obtain ⟨k, _, rfl⟩ := hu
        rfl
      go_wp2_with (at_builtin; refine wpList_append_src rfl _ _ 35 rfl w1.heap.size 5 i0 _ 1 1 Try.underlying35 HI.out HZ0.out HZ1.out HZ2.out rfl (by decide) _ 0 [] rfl hlit.out Al l.length cl (l.map (Value.int .u8)) rfl ?c1 hsrc.out hone.out ?c3 ?c4 ?c5 ?_)
      case c1 => simp
      case c3 => simp only [maxLen]; omega
      case c4 => omega
      case c5 => simp
      intro vm wm hown hgrow hat
      replace hown : wm.ownsRow w1.heap.size 5 1 vm l.length (l.map (Value.int .u8)) := by simpa using hown
      obtain ⟨Am, cm, rfl⟩ := own_slice hown
      have HK := Lib.hid (ks_own hown HL0.out (by omega))
      have b : Below w1.heap.size w1 wm := ((Below.refl _ _).alloc (Nat.le_refl _) _).grown hgrow (by simp) (fun q hq => by simp [Value.ownBlock] at hq; omega)
      clear hown hgrow hat hlit hsrc
      have HW := Lib.hid (show Below w1.heap.size w1 wm from Below.trans (by repeat (first | exact Below.refl _ _ | (with_reducible refine Below.drew ?_) | refine Below.setCell ?_ (by simp) _ | refine Below.alloc ?_ (by simp <;> omega) _)) (b.mono (by simp <;> omega)))
      replace q0 := cell_below HW.out q0
      replace q1 := cell_below HW.out q1
      replace q2 := cell_below HW.out q2
      replace qs := Nat.lt_of_lt_of_le qs HW.out.size
      replace HM := Lib.hid (HM.out.below HW.out)
      replace HL := Lib.hid (HL.out.below HW.out)
      replace HW0 := Lib.hid (HW0.out.below HW.out)
      replace HB := Lib.hid (HB.out.trans (HW.out.mono HB.out.size))
      replace SB := Lib.hid (SB.out.trans (HW.out.mono SB.out.size))
      have ZP := Lib.hid SB.out.size
      clear HW b
      go_wp2_with fail
      (with_reducible refine (new_at (r := r1) (p := p1) (i := i1) site ty d _ (HW0.out.below (by repeat (first | exact Below.refl _ _ | (with_reducible refine Below.drew ?_) | refine Below.setCell ?_ (by simp) _ | refine Below.alloc ?_ (by simp <;> omega) _))) (HK.out.below (by repeat (first | exact Below.refl _ _ | (with_reducible refine Below.drew ?_) | refine Below.setCell ?_ (by simp) _ | refine Below.alloc ?_ (by simp <;> omega) _))) HLX.out R1.out P1.out I1.out).mono ?_); rintro e w2 ⟨v2, rfl, lay, b⟩
      have LA := Lib.hid (lay.lower (base' := wm.heap.size) (by simp)); clear lay
      have HW := Lib.hid (show Below wm.heap.size wm w2 from Below.trans (by repeat (first | exact Below.refl _ _ | (with_reducible refine Below.drew ?_) | refine Below.setCell ?_ (by simp) _ | refine Below.alloc ?_ (by simp <;> omega) _)) (b.mono (by simp <;> omega)))
      replace q0 := cell_below HW.out q0
      replace q1 := cell_below HW.out q1
      replace q2 := cell_below HW.out q2
      replace qs := Nat.lt_of_lt_of_le qs HW.out.size
      replace HM := Lib.hid (HM.out.below HW.out)
      replace HL := Lib.hid (HL.out.below HW.out)
      replace HW0 := Lib.hid (HW0.out.below HW.out)
      replace HK := Lib.hid (HK.out.below HW.out)
      replace HB := Lib.hid (HB.out.trans (HW.out.mono HB.out.size))
      replace SB := Lib.hid (SB.out.trans (HW.out.mono SB.out.size))
      have WPC : w1.heap.size ≤ wm.heap.size ∧ wm.heap.size ≤ w2.heap.size := ⟨ZP.out, HW.out.size⟩
      clear HW b
      have SA : Hid (Below w2.heap.size w2 w2) := Below.refl _ _
      have ZA : Hid (w1.heap.size ≤ wm.heap.size ∧ wm.heap.size ≤ w2.heap.size) := WPC
      clear WPC
      go_wp2_with fail
      (with_reducible refine (rnew_at (r := r1) (p := p1) (i := i1) site ty d _ (HM.out.below (by repeat (first | exact Below.refl _ _ | (with_reducible refine Below.drew ?_) | refine Below.setCell ?_ (by simp) _ | refine Below.alloc ?_ (by simp <;> omega) _))) (HL.out.below (by repeat (first | exact Below.refl _ _ | (with_reducible refine Below.drew ?_) | refine Below.setCell ?_ (by simp) _ | refine Below.alloc ?_ (by simp <;> omega) _))) HLX.out R1.out P1.out I1.out).mono ?_); rintro e w3 ⟨v3, rfl, lay, b⟩
      have HD := Lib.hid lay.reads; clear lay
      have HW := Lib.hid (show Below w2.heap.size w2 w3 from Below.trans (by repeat (first | exact Below.refl _ _ | (with_reducible refine Below.drew ?_) | refine Below.setCell ?_ (by simp) _ | refine Below.alloc ?_ (by simp <;> omega) _)) (b.mono (by simp <;> omega)))
      have ua0 : w3.cell? ⟨w2.heap.size, 0, none⟩ = some (.int .u8 p1.k) := cell_below b (by first | (simp; done) | go_simp)
      have ua1 : w3.cell? ⟨w2.heap.size, 1, none⟩ = some (.int .i64 p1.n) := cell_below b (by first | (simp; done) | go_simp)
      have ua2 : w3.cell? ⟨w2.heap.size, 2, none⟩ = some (.int .i64 p1.b) := cell_below b (by first | (simp; done) | go_simp)
      have ua3 : w3.cell? ⟨w2.heap.size, 3, none⟩ = some (.int .i64 p1.o) := cell_below b (by first | (simp; done) | go_simp)
      have uas : w2.heap.size < w3.heap.size := World.block_lt_of_cell? w3 _ ua0
      replace q0 := cell_below HW.out q0
      replace q1 := cell_below HW.out q1
      replace q2 := cell_below HW.out q2
      replace qs := Nat.lt_of_lt_of_le qs HW.out.size
      replace HM := Lib.hid (HM.out.below HW.out)
      replace HL := Lib.hid (HL.out.below HW.out)
      replace HW0 := Lib.hid (HW0.out.below HW.out)
      replace HK := Lib.hid (HK.out.below HW.out)
      replace HB := Lib.hid (HB.out.trans (HW.out.mono HB.out.size))
      replace SB := Lib.hid (SB.out.trans (HW.out.mono SB.out.size))
      replace SA := Lib.hid (SA.out.trans (HW.out.mono SA.out.size))
      clear HW b
      go_wp2_with fail
      (with_reducible refine (pop_at (r := r2) (i := i2) d _ (HW0.out.below (by repeat (first | exact Below.refl _ _ | (with_reducible refine Below.drew ?_) | refine Below.setCell ?_ (by simp) _ | refine Below.alloc ?_ (by simp <;> omega) _))) R2.out I2.out).mono ?_); rintro e w4 ⟨v4, rfl, lay, b⟩
      have LG := Lib.hid (lay.lower (base' := w2.heap.size) (by have := SA.out.size; simp <;> omega)); clear lay
      have HW := Lib.hid (show Below w3.heap.size w3 w4 from Below.trans (by repeat (first | exact Below.refl _ _ | (with_reducible refine Below.drew ?_) | refine Below.setCell ?_ (by simp) _ | refine Below.alloc ?_ (by simp <;> omega) _)) (b.mono (by simp <;> omega)))
      have ub0 : w4.cell? ⟨w3.heap.size, 0, none⟩ = some (.int .u8 p1.k) := cell_below b (by first | (simp; done) | go_simp)
      have ub1 : w4.cell? ⟨w3.heap.size, 1, none⟩ = some (.int .i64 p1.n) := cell_below b (by first | (simp; done) | go_simp)
      have ub2 : w4.cell? ⟨w3.heap.size, 2, none⟩ = some (.int .i64 p1.b) := cell_below b (by first | (simp; done) | go_simp)
      have ub3 : w4.cell? ⟨w3.heap.size, 3, none⟩ = some (.int .i64 p1.o) := cell_below b (by first | (simp; done) | go_simp)
      have ubs : w3.heap.size < w4.heap.size := World.block_lt_of_cell? w4 _ ub0
      replace q0 := cell_below HW.out q0
      replace q1 := cell_below HW.out q1
      replace q2 := cell_below HW.out q2
      replace qs := Nat.lt_of_lt_of_le qs HW.out.size
      replace ua0 := cell_below HW.out ua0
      replace ua1 := cell_below HW.out ua1
      replace ua2 := cell_below HW.out ua2
      replace ua3 := cell_below HW.out ua3
      replace uas := Nat.lt_of_lt_of_le uas HW.out.size
      replace HM := Lib.hid (HM.out.below HW.out)
      replace HL := Lib.hid (HL.out.below HW.out)
      replace HW0 := Lib.hid (HW0.out.below HW.out)
      replace HK := Lib.hid (HK.out.below HW.out)
      replace HD := Lib.hid (HD.out.below HW.out)
      replace HB := Lib.hid (HB.out.trans (HW.out.mono HB.out.size))
      replace SB := Lib.hid (SB.out.trans (HW.out.mono SB.out.size))
      replace SA := Lib.hid (SA.out.trans (HW.out.mono SA.out.size))
      clear HW b
      go_wp2_with fail
      (with_reducible refine (rpop_at (r := r2) (i := i2) d _ (HM.out.below (by repeat (first | exact Below.refl _ _ | (with_reducible refine Below.drew ?_) | refine Below.setCell ?_ (by simp) _ | refine Below.alloc ?_ (by simp <;> omega) _))) R2.out I2.out).mono ?_); rintro e w5 ⟨v5, rfl, lay, b⟩
      have HH := Lib.hid lay.reads; clear lay
      have HW := Lib.hid (show Below w4.heap.size w4 w5 from Below.trans (by repeat (first | exact Below.refl _ _ | (with_reducible refine Below.drew ?_) | refine Below.setCell ?_ (by simp) _ | refine Below.alloc ?_ (by simp <;> omega) _)) (b.mono (by simp <;> omega)))
      replace q0 := cell_below HW.out q0
      replace q1 := cell_below HW.out q1
      replace q2 := cell_below HW.out q2
      replace qs := Nat.lt_of_lt_of_le qs HW.out.size
      replace ua0 := cell_below HW.out ua0
      replace ua1 := cell_below HW.out ua1
      replace ua2 := cell_below HW.out ua2
      replace ua3 := cell_below HW.out ua3
      replace uas := Nat.lt_of_lt_of_le uas HW.out.size
      replace ub0 := cell_below HW.out ub0
      replace ub1 := cell_below HW.out ub1
      replace ub2 := cell_below HW.out ub2
      replace ub3 := cell_below HW.out ub3
      replace ubs := Nat.lt_of_lt_of_le ubs HW.out.size
      replace HM := Lib.hid (HM.out.below HW.out)
      replace HL := Lib.hid (HL.out.below HW.out)
      replace HW0 := Lib.hid (HW0.out.below HW.out)
      replace HK := Lib.hid (HK.out.below HW.out)
      replace HD := Lib.hid (HD.out.below HW.out)
      replace LG := Lib.hid (LG.out.below HW.out)
      replace HB := Lib.hid (HB.out.trans (HW.out.mono HB.out.size))
      replace SB := Lib.hid (SB.out.trans (HW.out.mono SB.out.size))
      replace SA := Lib.hid (SA.out.trans (HW.out.mono SA.out.size))
      clear HW b
      go_wp2_with fail
      (with_reducible refine (rsame_at (b := true) _ ((LA.out.reads.below SA.out).below (by repeat (first | exact Below.refl _ _ | (with_reducible refine Below.drew ?_) | refine Below.setCell ?_ (by simp) _ | refine Below.alloc ?_ (by simp <;> omega) _))) (HD.out.below (by repeat (first | exact Below.refl _ _ | (with_reducible refine Below.drew ?_) | refine Below.setCell ?_ (by simp) _ | refine Below.alloc ?_ (by simp <;> omega) _))) (by simp)).mono ?_); rintro e w6 ⟨rfl, b⟩
      have HW := Lib.hid (show Below w5.heap.size w5 w6 from Below.trans (by repeat (first | exact Below.refl _ _ | (with_reducible refine Below.drew ?_) | refine Below.setCell ?_ (by simp) _ | refine Below.alloc ?_ (by simp <;> omega) _)) (b.mono (by simp <;> omega)))
      replace q0 := cell_below HW.out q0
      replace q1 := cell_below HW.out q1
      replace q2 := cell_below HW.out q2
      replace qs := Nat.lt_of_lt_of_le qs HW.out.size
      replace ua0 := cell_below HW.out ua0
      replace ua1 := cell_below HW.out ua1
      replace ua2 := cell_below HW.out ua2
      replace ua3 := cell_below HW.out ua3
      replace uas := Nat.lt_of_lt_of_le uas HW.out.size
      replace ub0 := cell_below HW.out ub0
      replace ub1 := cell_below HW.out ub1
      replace ub2 := cell_below HW.out ub2
      replace ub3 := cell_below HW.out ub3
      replace ubs := Nat.lt_of_lt_of_le ubs HW.out.size
      replace HM := Lib.hid (HM.out.below HW.out)
      replace HL := Lib.hid (HL.out.below HW.out)
      replace HW0 := Lib.hid (HW0.out.below HW.out)
      replace HK := Lib.hid (HK.out.below HW.out)
      replace HD := Lib.hid (HD.out.below HW.out)
      replace LG := Lib.hid (LG.out.below HW.out)
      replace HH := Lib.hid (HH.out.below HW.out)
      replace HB := Lib.hid (HB.out.trans (HW.out.mono HB.out.size))
      replace SB := Lib.hid (SB.out.trans (HW.out.mono SB.out.size))
      replace SA := Lib.hid (SA.out.trans (HW.out.mono SA.out.size))
      clear HW b
      go_wp2_with fail
      (with_reducible refine (rsame_at (b := true) _ (LG.out.reads.below (by repeat (first | exact Below.refl _ _ | (with_reducible refine Below.drew ?_) | refine Below.setCell ?_ (by simp) _ | refine Below.alloc ?_ (by simp <;> omega) _))) (HH.out.below (by repeat (first | exact Below.refl _ _ | (with_reducible refine Below.drew ?_) | refine Below.setCell ?_ (by simp) _ | refine Below.alloc ?_ (by simp <;> omega) _))) (by simp)).mono ?_); rintro e w7 ⟨rfl, b⟩
      have HW := Lib.hid (show Below w6.heap.size w6 w7 from Below.trans (by repeat (first | exact Below.refl _ _ | (with_reducible refine Below.drew ?_) | refine Below.setCell ?_ (by simp) _ | refine Below.alloc ?_ (by simp <;> omega) _)) (b.mono (by simp <;> omega)))
      replace q0 := cell_below HW.out q0
      replace q1 := cell_below HW.out q1
      replace q2 := cell_below HW.out q2
      replace qs := Nat.lt_of_lt_of_le qs HW.out.size
      replace ua0 := cell_below HW.out ua0
      replace ua1 := cell_below HW.out ua1
      replace ua2 := cell_below HW.out ua2
      replace ua3 := cell_below HW.out ua3
      replace uas := Nat.lt_of_lt_of_le uas HW.out.size
      replace ub0 := cell_below HW.out ub0
      replace ub1 := cell_below HW.out ub1
      replace ub2 := cell_below HW.out ub2
      replace ub3 := cell_below HW.out ub3
      replace ubs := Nat.lt_of_lt_of_le ubs HW.out.size
      replace HM := Lib.hid (HM.out.below HW.out)
      replace HL := Lib.hid (HL.out.below HW.out)
      replace HW0 := Lib.hid (HW0.out.below HW.out)
      replace HK := Lib.hid (HK.out.below HW.out)
      replace HD := Lib.hid (HD.out.below HW.out)
      replace LG := Lib.hid (LG.out.below HW.out)
      replace HH := Lib.hid (HH.out.below HW.out)
      replace HB := Lib.hid (HB.out.trans (HW.out.mono HB.out.size))
      replace SB := Lib.hid (SB.out.trans (HW.out.mono SB.out.size))
      replace SA := Lib.hid (SA.out.trans (HW.out.mono SA.out.size))
      clear HW b
      have cv1 := (conv_ks HK.out).trans (by rw [ST.out])
      have cv2 := (conv_ks HL.out).trans (by rw [ST.out])
      go_wp2_with fail
      clear cv1 cv2
      (with_reducible refine (spoil_in _ LA.out (SA.out.trans (Below.trans (by repeat (first | exact Below.refl _ _ | (with_reducible refine Below.drew ?_) | refine Below.setCell ?_ (by simp) _ | refine Below.alloc ?_ (by simp <;> omega) _)) (Below.refl _ _))) S1.out.1 S1.out.2).mono ?_); rintro e ws ⟨rfl, hsp⟩
      have LG2 : Hid (Lay w2.heap.size ws v4 r2) := (LG.out.below (by repeat (first | exact Below.refl _ _ | (with_reducible refine Below.drew ?_) | refine Below.setCell ?_ (by simp) _ | refine Below.alloc ?_ (by simp <;> omega) _))).kept hsp (Nat.le_refl _)
      have BS : Hid (Below w1.heap.size w1 ws) := SB.out.trans (Below.trans (by repeat (first | exact Below.refl _ _ | (with_reducible refine Below.drew ?_) | refine Below.setCell ?_ (by simp) _ | refine Below.alloc ?_ (by simp <;> omega) _)) (hsp.below.mono ZA.out.1))
      clear hsp q0 q1 q2 qs
      go_wp2_with fail
      (with_reducible refine (spoil_any _ (LG2.out.below (by repeat (first | exact Below.refl _ _ | (with_reducible refine Below.drew ?_) | refine Below.setCell ?_ (by simp) _ | refine Below.alloc ?_ (by simp <;> omega) _))) S2.out.1 S2.out.2).mono ?_); rintro e wt ⟨rfl, hsp⟩
      have BT : Hid (Below w1.heap.size w1 wt) := BS.out.trans (Below.trans (by repeat (first | exact Below.refl _ _ | (with_reducible refine Below.drew ?_) | refine Below.setCell ?_ (by simp) _ | refine Below.alloc ?_ (by simp <;> omega) _)) (hsp.mono (by have := ZA.out; omega)))
      clear hsp
      go_wp2_with fail
      (with_reducible refine (rsame_at (b := true) _ ((KW.out.below BT.out).below (by repeat (first | exact Below.refl _ _ | (with_reducible refine Below.drew ?_) | refine Below.setCell ?_ (by simp) _ | refine Below.alloc ?_ (by simp <;> omega) _))) ((KM.out.below BT.out).below (by repeat (first | exact Below.refl _ _ | (with_reducible refine Below.drew ?_) | refine Below.setCell ?_ (by simp) _ | refine Below.alloc ?_ (by simp <;> omega) _))) (by simp)).mono ?_); rintro e wz ⟨rfl, bz⟩
      have BZ : Hid (Below w.heap.size w wz) := (KB.out.trans (BT.out.mono KB.out.size)).trans (Below.trans (B := w.heap.size) (by repeat (first | exact Below.refl _ _ | (with_reducible refine Below.drew ?_) | refine Below.setCell ?_ (by simp) _ | refine Below.alloc ?_ (by simp <;> omega) _)) (bz.mono (by have := KB.out.size; have := BT.out.size; simp <;> omega)))
      clear bz
      go_wp2
      go_ret
      exact ⟨rfl, BZ.out⟩
  · go_wp2_with fail
    (with_reducible refine (great_at hg _ (HM.out.below (by repeat (first | exact Below.refl _ _ | (with_reducible refine Below.drew ?_) | refine Below.setCell ?_ (by simp) _ | refine Below.alloc ?_ (by simp <;> omega) _)))).mono ?_); rintro e _ ⟨rfl, rfl⟩
    go_wp2
    go_ret
    exact ⟨rfl, (by repeat (first | exact Below.refl _ _ | (with_reducible refine Below.drew ?_) | refine Below.setCell ?_ (by simp) _ | refine Below.alloc ?_ (by simp <;> omega) _))⟩


/-! ### THE ROW's STEP -/
theorem own : ownKnob Try.prog.godebug = none := by kernel_rfl

theorem laidOut : laidOutB Try.prog = true := by kernel_rfl

set_option maxRecDepth 100000 in
theorem lifted (os : Os) (started : os.Started) (H : Type) (enc : TypeId × Value → H) :
    ReturnsInHanded {} Try.checked os 5 .any (Rows.memMakesSpec.pre6 enc Try.prog Try.f5 Rows.memMakesRow.domain false) (Rows.memMakesSpec.post enc Try.prog Try.f5 false true false false) := by
  refine returnsInHanded_of_change (C := Try.checked) own started (by kernel_rfl) Try.func5
    (ChangeSpec.witness6 (enc := enc) (C := Try.checked) false ⟨#[], #[.slice none 0 0, .agg #[.int .i64 0, .int .i64 0, .int .i64 0], .slice none 0 0], []⟩ 8 (by kernel_rfl) (by kernel_rfl) (by kernel_rfl) (by kernel_rfl)) ?_
  intro W base args ds gs before hval0 hW hcnd _
  have hval : ∀ (j : Nat) t v, Try.f5.params[j]? = some t → args[j]? = some v → Value.okWide Try.prog W .any base t v := hval0
  have hW' := hW
  obtain ⟨p, q, hA0, hV, rfl, hfz, hnd⟩ := hW
  have hA : DataW.TrodAll enc Try.prog W 0 (fun _ => true) true Try.f5.params.toList args.toList ds p := hA0
  rw [Try.params5] at hA hval
  obtain ⟨v0, vs0, d0, ds0, p0, q0, hargs, rfl, rfl, h0, r0⟩ := trodAll_cons hA
  obtain ⟨v1, vs1, d1, ds1, p1, q1, rfl, rfl, rfl, h1, r1⟩ := trodAll_cons r0
  obtain ⟨v2, vs2, d2, ds2, p2, q2, rfl, rfl, rfl, h2, r2⟩ := trodAll_cons r1
  obtain ⟨rfl, rfl, rfl⟩ := trodAll_nil r2
  obtain rfl : args = #[v0, v1, v2] := by cases args; simp_all
  obtain ⟨rfl, rfl⟩ := trodVars_none hV
  obtain ⟨m0, hm0⟩ := open_blks (hval 0 22 v0 rfl rfl) h0
  obtain ⟨s1, k1, n1, rfl⟩ := open_place (hval 1 49 v1 rfl rfl) h1
  obtain ⟨l2, hl2⟩ := open_ks (hval 2 35 v2 rfl rfl) h2
  refine (core s1 k1 n1 W hm0 hl2).mono fun e W' ⟨he, hg⟩ => ?_
  subst he
  exact ⟨_, rfl, law_post laidOut (by
    intro t ht
    simp only [Try.params5, List.mem_cons, List.not_mem_nil, or_false] at ht
    rcases ht with rfl | rfl | rfl <;> exact ⟨by kernel_rfl, of_decide_eq_true (by kernel_rfl)⟩) rfl rfl Try.underlying4 rfl hW' hg⟩

theorem over : Rows.memMakesRow.holds Try.pinned (OpenSpec.ofChange Rows.memMakesSpec) :=
  OpenClaim.holds_of_wide 5 Try.f5 rfl rfl rfl rfl rfl rfl rfl ⟨rfl, rfl, rfl, rfl, rfl⟩ rfl rfl rfl rfl rfl (by kernel_rfl) Try.func5 (by kernel_rfl)
    (of_decide_eq_true (by kernel_rfl)) (by unfold Func.isWrapper; first | (rw [if_pos (by decide +kernel)]; kernel_rfl) | (rw [if_neg (by decide +kernel)]; exact ⟨rfl, rfl⟩))
    (fun os started H enc _ => lifted os started H enc)

theorem proved : Rows.MemMakesSaid :=
  over
#print axioms proved

end Go.Proofs.Ytmelamlngjflkaa.memMakes

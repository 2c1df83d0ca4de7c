/- MemFresh: what is made has its values at first, its pointer is no other one's, and no other cell is turned, at every memory, kinds and pointer; the call answers true, and what is handed in reads as before. No condition. -/
import Derived.Test.YtmelamlngjflkaaRows
import Derived.WalkKit
import Derived.ProofKit
import Derived.OpenShut
import Derived.Below
import Derived.Outline
import Derived.LoopTactic
import Derived.Test.YtmelamlngjflkaaRep
import Derived.Test.YtmelamlngjflkaaU
import Derived.Test.YtmelamlngjflkaaQ
import Derived.Test.YtmelamlngjflkaaO
import Derived.Test.YtmelamlngjflkaaT2
import Derived.Lib.Hide
import Derived.RegionTactic
import Derived.BigRegion
import Derived.Deep.RegionWith
import Derived.Test.YtmelamlngjflkaaQ2
import Derived.Test.YtmelamlngjflkaaO2
import Derived.Deep.CutRange
namespace Go.Proofs.Ytmelamlngjflkaa.memFresh
open Go.Joins Go.ChangeShapes Go.WideShapes Go.ChangeAt Go.RowKit Go.Deep

theorem great_at {m : List Blk} {v : Value} {b : Bool} (h : greatB m = b) (w : World) (hm : BsAt w v m) : Calls Try.prog 13 #[v] w fun e w' => e = .returned (.bool b) ∧ w = w' := by
  subst h
  exact great_any w hm

theorem depth_at {m : List Blk} {v : Value} {x i : Int} (p : Val) (w : World) (hm : BsAt w v m) (hr : depthV m p = x) (hi : depthI m p = i) :
    Calls Try.prog 18 #[v, .agg #[.int .u8 p.k, .int .i64 p.n, .int .i64 p.b, .int .i64 p.o]] w fun e w' => e = .returned (.tuple #[.int .i64 x, .int .i64 i]) ∧ Below w.heap.size w w' := by
  subst hr hi
  exact depth_any p w hm

set_option maxRecDepth 100000 in
set_option maxHeartbeats 4000000 in
theorem core {m : List Blk} {v lv : Value} {l : List Int} (q : Val) (w : World) (hm : BsAt w v m) (hl : KsAt w lv l) : Calls Try.prog 10 #[v, lv, .agg #[.int .u8 q.k, .int .i64 q.n, .int .i64 q.b, .int .i64 q.o]] w fun e w' => e = .returned (.bool true) ∧ Below w.heap.size w w' := by
  have hm' := hm
  obtain ⟨Am, cm, rfl, hlm, _⟩ := hm'
  have hl' := hl
  obtain ⟨Al, cl, rfl, hll, _⟩ := hl'
  have HM := Lib.hid hm; clear hm
  have HL := Lib.hid hl; clear hl
  clear hlm hll
  go_enter Try.func10, Try.ntmps10
  have HB : Hid (Below w.heap.size w w) := Lib.hid (Below.refl _ _)
  go_wp2_with fail
  (with_reducible refine (alive_any _).mono ?_); rintro e w1 ⟨rfl, b⟩
  have HW := Lib.hid (show Below w.heap.size w w1 from Below.trans (by repeat (first | exact Below.refl _ _ | (with_reducible refine Below.drew ?_) | refine Below.setCell ?_ (by simp) _ | refine Below.alloc ?_ (by simp <;> omega) _)) (b.mono (by simp <;> omega)))
  have q0 : w1.cell? ⟨w.heap.size, 0, none⟩ = some (.int .u8 q.k) := cell_below b (by first | (simp; done) | go_simp)
  have q1 : w1.cell? ⟨w.heap.size, 1, none⟩ = some (.int .i64 q.n) := cell_below b (by first | (simp; done) | go_simp)
  have q2 : w1.cell? ⟨w.heap.size, 2, none⟩ = some (.int .i64 q.b) := cell_below b (by first | (simp; done) | go_simp)
  have q3 : w1.cell? ⟨w.heap.size, 3, none⟩ = some (.int .i64 q.o) := cell_below b (by first | (simp; done) | go_simp)
  have qs : w.heap.size < w1.heap.size := World.block_lt_of_cell? w1 _ q0
  replace HM := Lib.hid (HM.out.below HW.out)
  replace HL := Lib.hid (HL.out.below HW.out)
  replace HB := Lib.hid (HB.out.trans (HW.out.mono HB.out.size))
  clear HW b
  cases hg : greatB m
  · go_wp2_with fail
    (with_reducible refine (great_at hg _ (HM.out.below (by repeat (first | exact Below.refl _ _ | (with_reducible refine Below.drew ?_) | refine Below.setCell ?_ (by simp) _ | refine Below.alloc ?_ (by simp <;> omega) _)))).mono ?_); rintro e _ ⟨rfl, rfl⟩
    by_cases h40 : 40 < l.length
    · go_wp2
      go_ret
      exact ⟨rfl, HB.out⟩
    · by_cases he : newI m 5 6 7 l = 0
      · have HE := Lib.hid he
        have hnz := new_zero he
        obtain ⟨hmay, _, _, _, _, hl1, hl2, hm2⟩ := hnz
        clear hmay
        have hr : newR m 5 6 7 l = (m ++ [newB 5 6 7 l]) := by rw [newR, he, if_pos rfl]
        have hv : newV m 5 6 7 l = freshP m 0 := by rw [newV, he, if_pos rfl]; rfl
        go_wp2_with fail
        (with_reducible refine (new_at (r := (m ++ [newB 5 6 7 l])) (p := freshP m 0) (i := 0) 5 6 7 _ (HM.out.below (by repeat (first | exact Below.refl _ _ | (with_reducible refine Below.drew ?_) | refine Below.setCell ?_ (by simp) _ | refine Below.alloc ?_ (by simp <;> omega) _))) (HL.out.below (by repeat (first | exact Below.refl _ _ | (with_reducible refine Below.drew ?_) | refine Below.setCell ?_ (by simp) _ | refine Below.alloc ?_ (by simp <;> omega) _))) (by omega) hr hv he).mono ?_); rintro e w2 ⟨v1, rfl, lay, b⟩
        have HW := Lib.hid (show Below w1.heap.size w1 w2 from Below.trans (by repeat (first | exact Below.refl _ _ | (with_reducible refine Below.drew ?_) | refine Below.setCell ?_ (by simp) _ | refine Below.alloc ?_ (by simp <;> omega) _)) (b.mono (by simp <;> omega)))
        replace q0 := cell_below HW.out q0
        replace q1 := cell_below HW.out q1
        replace q2 := cell_below HW.out q2
        replace q3 := cell_below HW.out q3
        replace qs := Nat.lt_of_lt_of_le qs HW.out.size
        replace HM := Lib.hid (HM.out.below HW.out)
        replace HL := Lib.hid (HL.out.below HW.out)
        replace HB := Lib.hid (HB.out.trans (HW.out.mono HB.out.size))
        clear HW b
        clear hr hv
        have hxl : (m ++ [newB 5 6 7 l]).length = m.length + 1 := by simp
        have HX := Lib.hid lay.reads
        obtain ⟨A1, c1, e1, _⟩ := lay.len; rw [hxl] at e1; subst e1; clear lay
        go_wp2_with fail
        (with_reducible refine (load_at (x := loadV m q) (i := loadI m q) q _ (HM.out.below (by repeat (first | exact Below.refl _ _ | (with_reducible refine Below.drew ?_) | refine Below.setCell ?_ (by simp) _ | refine Below.alloc ?_ (by simp <;> omega) _))) rfl rfl).mono ?_); rintro e w3 ⟨rfl, b⟩
        have HW := Lib.hid (show Below w2.heap.size w2 w3 from Below.trans (by repeat (first | exact Below.refl _ _ | (with_reducible refine Below.drew ?_) | refine Below.setCell ?_ (by simp) _ | refine Below.alloc ?_ (by simp <;> omega) _)) (b.mono (by simp <;> omega)))
        have p0 : w3.cell? ⟨w2.heap.size, 0, none⟩ = some (.int .u8 (freshP m 0).k) := cell_below b (by first | (simp; done) | go_simp)
        have p1 : w3.cell? ⟨w2.heap.size, 1, none⟩ = some (.int .i64 (freshP m 0).n) := cell_below b (by first | (simp; done) | go_simp)
        have p2 : w3.cell? ⟨w2.heap.size, 2, none⟩ = some (.int .i64 (freshP m 0).b) := cell_below b (by first | (simp; done) | go_simp)
        have p3 : w3.cell? ⟨w2.heap.size, 3, none⟩ = some (.int .i64 (freshP m 0).o) := cell_below b (by first | (simp; done) | go_simp)
        have ps : w2.heap.size < w3.heap.size := World.block_lt_of_cell? w3 _ p0
        replace q0 := cell_below HW.out q0
        replace q1 := cell_below HW.out q1
        replace q2 := cell_below HW.out q2
        replace q3 := cell_below HW.out q3
        replace qs := Nat.lt_of_lt_of_le qs HW.out.size
        replace HM := Lib.hid (HM.out.below HW.out)
        replace HL := Lib.hid (HL.out.below HW.out)
        replace HX := Lib.hid (HX.out.below HW.out)
        replace HB := Lib.hid (HB.out.trans (HW.out.mono HB.out.size))
        clear HW b
        go_wp2_with fail
        (with_reducible refine (load_at (x := loadV (m ++ [newB 5 6 7 l]) q) (i := loadI (m ++ [newB 5 6 7 l]) q) q _ (HX.out.below (by repeat (first | exact Below.refl _ _ | (with_reducible refine Below.drew ?_) | refine Below.setCell ?_ (by simp) _ | refine Below.alloc ?_ (by simp <;> omega) _))) rfl rfl).mono ?_); rintro e w4 ⟨rfl, b⟩
        have HW := Lib.hid (show Below w3.heap.size w3 w4 from Below.trans (by repeat (first | exact Below.refl _ _ | (with_reducible refine Below.drew ?_) | refine Below.setCell ?_ (by simp) _ | refine Below.alloc ?_ (by simp <;> omega) _)) (b.mono (by simp <;> omega)))
        have y0 : w4.cell? ⟨w3.heap.size, 0, none⟩ = some (.int .u8 (loadV m q).k) := cell_below b (by first | (simp; done) | go_simp)
        have y1 : w4.cell? ⟨w3.heap.size, 1, none⟩ = some (.int .i64 (loadV m q).n) := cell_below b (by first | (simp; done) | go_simp)
        have y2 : w4.cell? ⟨w3.heap.size, 2, none⟩ = some (.int .i64 (loadV m q).b) := cell_below b (by first | (simp; done) | go_simp)
        have y3 : w4.cell? ⟨w3.heap.size, 3, none⟩ = some (.int .i64 (loadV m q).o) := cell_below b (by first | (simp; done) | go_simp)
        have ys : w3.heap.size < w4.heap.size := World.block_lt_of_cell? w4 _ y0
        replace q0 := cell_below HW.out q0
        replace q1 := cell_below HW.out q1
        replace q2 := cell_below HW.out q2
        replace q3 := cell_below HW.out q3
        replace qs := Nat.lt_of_lt_of_le qs HW.out.size
        replace p0 := cell_below HW.out p0
        replace p1 := cell_below HW.out p1
        replace p2 := cell_below HW.out p2
        replace p3 := cell_below HW.out p3
        replace ps := Nat.lt_of_lt_of_le ps HW.out.size
        replace HM := Lib.hid (HM.out.below HW.out)
        replace HL := Lib.hid (HL.out.below HW.out)
        replace HX := Lib.hid (HX.out.below HW.out)
        replace HB := Lib.hid (HB.out.trans (HW.out.mono HB.out.size))
        clear HW b
        by_cases h2 : loadI m q = 2
        · generalize loadI m q = i1 at h2
          subst h2
          have P0 := Lib.hid p0
          obtain ⟨pv0, pe0⟩ : ∃ a, a = (freshP m 0).k := ⟨_, rfl⟩
          rw [← pe0] at p0
          clear pe0
          have P1 := Lib.hid p1
          obtain ⟨pv1, pe1⟩ : ∃ a, a = (freshP m 0).n := ⟨_, rfl⟩
          rw [← pe1] at p1
          clear pe1
          have P2 := Lib.hid p2
          obtain ⟨pv2, pe2⟩ : ∃ a, a = (freshP m 0).b := ⟨_, rfl⟩
          rw [← pe2] at p2
          clear pe2
          have P3 := Lib.hid p3
          obtain ⟨pv3, pe3⟩ : ∃ a, a = (freshP m 0).o := ⟨_, rfl⟩
          rw [← pe3] at p3
          clear pe3
          have Q0 := Lib.hid q0
          obtain ⟨qv0, qe0⟩ : ∃ a, a = q.k := ⟨_, rfl⟩
          rw [← qe0] at q0
          clear qe0
          have Q1 := Lib.hid q1
          obtain ⟨qv1, qe1⟩ : ∃ a, a = q.n := ⟨_, rfl⟩
          rw [← qe1] at q1
          clear qe1
          have Q2 := Lib.hid q2
          obtain ⟨qv2, qe2⟩ : ∃ a, a = q.b := ⟨_, rfl⟩
          rw [← qe2] at q2
          clear qe2
          have Q3 := Lib.hid q3
          obtain ⟨qv3, qe3⟩ : ∃ a, a = q.o := ⟨_, rfl⟩
          rw [← qe3] at q3
          clear qe3
          go_upto_region 9 with fail
          go_cut [97] from 64 to 97 (fun s wx => s = .bool false ∧ Below w4.heap.size w4 wx)
          case first =>
            have HCK := Lib.hid (newed_may HE.out)
            go_wp2_with fail
            all_goals
              (with_reducible refine (check_yes _ (HX.out.below (by repeat (first | exact Below.refl _ _ | (with_reducible refine Below.drew ?_) | refine Below.setCell ?_ (by simp) _ | refine Below.alloc ?_ (by simp <;> omega) _))) HCK.out).mono ?_); rintro e w9 ⟨rfl, b⟩
              have b9 := Lib.hid (show Below w4.heap.size w4 w9 from Below.trans (by repeat (first | exact Below.refl _ _ | (with_reducible refine Below.drew ?_) | refine Below.setCell ?_ (by simp) _ | refine Below.alloc ?_ (by simp <;> omega) _)) (b.mono (by simp <;> omega)))
              clear b
              go_wp2
              go_meet
              exact ⟨rfl, b9.out⟩
          case rest =>
            obtain ⟨rfl, hcb⟩ := hcut

            have HC := Lib.hid hcb; clear hcb
            clear p0 p1 p2 p3 q0 q1 q2 q3
            have p0 := cell_below HC.out P0.out
            have p1 := cell_below HC.out P1.out
            have p2 := cell_below HC.out P2.out
            have p3 := cell_below HC.out P3.out
            clear P0 P1 P2 P3 Q0 Q1 Q2 Q3
            replace HX := Lib.hid (HX.out.below HC.out)
            replace HL := Lib.hid (HL.out.below HC.out)
            replace HB := Lib.hid (HB.out.trans (HC.out.mono HB.out.size))
            go_wp2_with fail
            go_loopw [15, 16, 17, 18, 19] (fun s15 _ _ _ _ wr => ∃ k : Nat, k ≤ l.length ∧ s15 = .int .i64 k ∧ Below wc.heap.size wc wr) (fun s15 _ _ _ _ _ => l.length - (intOf s15).toNat)
            case atStart => exact ⟨0, Nat.zero_le _, rfl, Below.refl _ _⟩
            case round =>
              obtain ⟨k, hk, rfl, hb⟩ := hrel
              have HR := Lib.hid hb; clear hb
              replace p0 := cell_below HR.out p0
              replace p1 := cell_below HR.out p1
              replace p2 := cell_below HR.out p2
              replace p3 := cell_below HR.out p3
              replace HX := Lib.hid (HX.out.below HR.out)
              by_cases hlt : k < l.length
              · obtain ⟨ga, oa, rfl, hga, hx0, hxc⟩ := HL.out.get (List.getElem?_eq_getElem hlt)
                obtain ⟨m1, m2⟩ := fresh_move HE.out hlt
                obtain ⟨n1, n2⟩ := fresh_load HE.out hlt
                change loadV _ _ = (⟨l[k]'hlt, 0, 0, 0⟩ : Val) at n2
                have xc := cell_below HR.out hxc
                clear hxc
                have HB0 := HB; have HB := HR
                have HRR := HR
                have ps : w2.heap.size < wr.heap.size := World.block_lt_of_cell? wr _ p0
                have HB := Lib.hid (Below.refl wr.heap.size wr)
                go_wp2_with fail
                (with_reducible refine (move_at (x := freshP m k) (i := 0) (freshP m 0) k _ (HX.out.below (by repeat (first | exact Below.refl _ _ | (with_reducible refine Below.drew ?_) | refine Below.setCell ?_ (by simp) _ | refine Below.alloc ?_ (by simp <;> omega) _))) (by omega) m2 m1).mono ?_); rintro e w21 ⟨rfl, b⟩
                have HW := Lib.hid (show Below wr.heap.size wr w21 from Below.trans (by repeat (first | exact Below.refl _ _ | (with_reducible refine Below.drew ?_) | refine Below.setCell ?_ (by simp) _ | refine Below.alloc ?_ (by simp <;> omega) _)) (b.mono (by simp <;> omega)))
                replace p0 := cell_below HW.out p0
                replace p1 := cell_below HW.out p1
                replace p2 := cell_below HW.out p2
                replace p3 := cell_below HW.out p3
                replace ps := Nat.lt_of_lt_of_le ps HW.out.size
                replace HX := Lib.hid (HX.out.below HW.out)
                replace HB := Lib.hid (HB.out.trans (HW.out.mono HB.out.size))
                clear HW b
                go_wp2_with fail
                (with_reducible refine (load_at (x := ⟨l[k]'hlt, 0, 0, 0⟩) (i := 0) (freshP m k) _ (HX.out.below (by repeat (first | exact Below.refl _ _ | (with_reducible refine Below.drew ?_) | refine Below.setCell ?_ (by simp) _ | refine Below.alloc ?_ (by simp <;> omega) _))) n2 n1).mono ?_); rintro e w22 ⟨rfl, b⟩
                have HW := Lib.hid (show Below w21.heap.size w21 w22 from Below.trans (by repeat (first | exact Below.refl _ _ | (with_reducible refine Below.drew ?_) | refine Below.setCell ?_ (by simp) _ | refine Below.alloc ?_ (by simp <;> omega) _)) (b.mono (by simp <;> omega)))
                have r0 : w22.cell? ⟨w21.heap.size, 0, none⟩ = some (.int .u8 (freshP m k).k) := cell_below b (by first | (simp; done) | go_simp)
                have r1 : w22.cell? ⟨w21.heap.size, 1, none⟩ = some (.int .i64 (freshP m k).n) := cell_below b (by first | (simp; done) | go_simp)
                have r2 : w22.cell? ⟨w21.heap.size, 2, none⟩ = some (.int .i64 (freshP m k).b) := cell_below b (by first | (simp; done) | go_simp)
                have r3 : w22.cell? ⟨w21.heap.size, 3, none⟩ = some (.int .i64 (freshP m k).o) := cell_below b (by first | (simp; done) | go_simp)
                have rs : w21.heap.size < w22.heap.size := World.block_lt_of_cell? w22 _ r0
                replace p0 := cell_below HW.out p0
                replace p1 := cell_below HW.out p1
                replace p2 := cell_below HW.out p2
                replace p3 := cell_below HW.out p3
                replace ps := Nat.lt_of_lt_of_le ps HW.out.size
                replace HX := Lib.hid (HX.out.below HW.out)
                replace HB := Lib.hid (HB.out.trans (HW.out.mono HB.out.size))
                clear HW b
                replace xc := cell_below HB.out xc
                clear m1 m2 n1 n2
                go_wp2_with fail
                refine wp_world (fun W => Below w22.heap.size w22 W ∧ w22.heap.size < W.heap.size ∧ W.cell? ⟨w22.heap.size, 0, none⟩ = some (.int .u8 (l[k]'hlt)) ∧ W.cell? ⟨w22.heap.size, 1, none⟩ = some (.int .i64 0) ∧ W.cell? ⟨w22.heap.size, 2, none⟩ = some (.int .i64 0) ∧ W.cell? ⟨w22.heap.size, 3, none⟩ = some (.int .i64 0)) ?_ ?_
                · exact ⟨(by repeat (first | exact Below.refl _ _ | (with_reducible refine Below.drew ?_) | refine Below.setCell ?_ (by simp) _ | refine Below.alloc ?_ (by simp <;> omega) _)), by simp, by simp, by simp, by simp, by simp⟩
                rintro W ⟨hbW, s0, v0, v1', v2, v3⟩
                have xg : ga < W.heap.size := World.block_lt_of_cell? W _ (cell_below hbW xc)
                replace xc := cell_below hbW xc
                have HB3 := Lib.hid (HR.out.trans ((HB.out.trans (hbW.mono HB.out.size)).mono HR.out.size))
                clear hbW
                have cu := upon_cell W W.heap.size
                refine wp_region_upon (by kernel_rfl) (by kernel_rfl) ?_
                repeat (go_big_quiet_step (fail))
                refine wpQuiet_nil ?_
                intro W2 hb2
                have HB2 := Lib.hid (HB3.out.trans (hb2.mono HB3.out.size))
                clear hb2 cu
                go_wp2
                go_roundw
                case rel => exact ⟨k + 1, by omega, by go_num, HB2.out⟩
                case measure => simp [intOf]; omega
              · have : k = l.length := by omega
                subst this
                have ps : w2.heap.size < wr.heap.size := World.block_lt_of_cell? wr _ p0
                replace HB := Lib.hid (HB.out.trans (HR.out.mono HB.out.size))
                obtain ⟨m3, m4⟩ := fresh_depth HE.out
                have m5 := fresh_end HE.out
                go_wp2_with fail
                (with_reducible refine (move_at (x := moveV (m ++ [newB 5 6 7 l]) (freshP m 0) l.length) (i := 2) (freshP m 0) l.length _ (HX.out.below (by repeat (first | exact Below.refl _ _ | (with_reducible refine Below.drew ?_) | refine Below.setCell ?_ (by simp) _ | refine Below.alloc ?_ (by simp <;> omega) _))) (by omega) rfl m5).mono ?_); rintro e w31 ⟨rfl, b⟩
                have HW := Lib.hid (show Below wr.heap.size wr w31 from Below.trans (by repeat (first | exact Below.refl _ _ | (with_reducible refine Below.drew ?_) | refine Below.setCell ?_ (by simp) _ | refine Below.alloc ?_ (by simp <;> omega) _)) (b.mono (by simp <;> omega)))
                replace p0 := cell_below HW.out p0
                replace p1 := cell_below HW.out p1
                replace p2 := cell_below HW.out p2
                replace p3 := cell_below HW.out p3
                replace ps := Nat.lt_of_lt_of_le ps HW.out.size
                replace HX := Lib.hid (HX.out.below HW.out)
                replace HB := Lib.hid (HB.out.trans (HW.out.mono HB.out.size))
                clear HW b
                go_wp2_with fail
                (with_reducible refine (depth_at (x := 7) (i := 0) (freshP m 0) _ (HX.out.below (by repeat (first | exact Below.refl _ _ | (with_reducible refine Below.drew ?_) | refine Below.setCell ?_ (by simp) _ | refine Below.alloc ?_ (by simp <;> omega) _))) m4 m3).mono ?_); rintro e w32 ⟨rfl, b⟩
                have HW := Lib.hid (show Below w31.heap.size w31 w32 from Below.trans (by repeat (first | exact Below.refl _ _ | (with_reducible refine Below.drew ?_) | refine Below.setCell ?_ (by simp) _ | refine Below.alloc ?_ (by simp <;> omega) _)) (b.mono (by simp <;> omega)))
                have r0 : w32.cell? ⟨w31.heap.size, 0, none⟩ = some (.int .u8 (moveV (m ++ [newB 5 6 7 l]) (freshP m 0) l.length).k) := cell_below b (by first | (simp; done) | go_simp)
                have r1 : w32.cell? ⟨w31.heap.size, 1, none⟩ = some (.int .i64 (moveV (m ++ [newB 5 6 7 l]) (freshP m 0) l.length).n) := cell_below b (by first | (simp; done) | go_simp)
                have r2 : w32.cell? ⟨w31.heap.size, 2, none⟩ = some (.int .i64 (moveV (m ++ [newB 5 6 7 l]) (freshP m 0) l.length).b) := cell_below b (by first | (simp; done) | go_simp)
                have r3 : w32.cell? ⟨w31.heap.size, 3, none⟩ = some (.int .i64 (moveV (m ++ [newB 5 6 7 l]) (freshP m 0) l.length).o) := cell_below b (by first | (simp; done) | go_simp)
                have rs : w31.heap.size < w32.heap.size := World.block_lt_of_cell? w32 _ r0
                replace p0 := cell_below HW.out p0
                replace p1 := cell_below HW.out p1
                replace p2 := cell_below HW.out p2
                replace p3 := cell_below HW.out p3
                replace ps := Nat.lt_of_lt_of_le ps HW.out.size
                replace HX := Lib.hid (HX.out.below HW.out)
                replace HB := Lib.hid (HB.out.trans (HW.out.mono HB.out.size))
                clear HW b
                go_wp2
                go_ret
                exact ⟨rfl, HB.out⟩
        · obtain ⟨g1, g2⟩ := fresh_old HE.out h2
          rw [g1, g2]
          have hne : loadI m q = 0 → ¬ ((freshP m 0).b = q.b) := fresh_ne
          clear g1 g2
          generalize loadI m q = i1 at h2 hne
          have d1 : (i1 != 2) = true := by simpa using h2
          by_cases h0 : i1 = 0
          · subst h0
            have hne := hne rfl
            have P0 := Lib.hid p0
            obtain ⟨pv0, pe0⟩ : ∃ a, a = (freshP m 0).k := ⟨_, rfl⟩
            rw [← pe0] at p0
            clear pe0
            have P1 := Lib.hid p1
            obtain ⟨pv1, pe1⟩ : ∃ a, a = (freshP m 0).n := ⟨_, rfl⟩
            rw [← pe1] at p1
            clear pe1
            have P2 := Lib.hid p2
            obtain ⟨pv2, pe2⟩ : ∃ a, a = (freshP m 0).b := ⟨_, rfl⟩
            rw [← pe2] at p2
            rw [← pe2] at hne
            clear pe2
            have P3 := Lib.hid p3
            obtain ⟨pv3, pe3⟩ : ∃ a, a = (freshP m 0).o := ⟨_, rfl⟩
            rw [← pe3] at p3
            clear pe3
            have Q0 := Lib.hid q0
            obtain ⟨qv0, qe0⟩ : ∃ a, a = q.k := ⟨_, rfl⟩
            rw [← qe0] at q0
            clear qe0
            have Q1 := Lib.hid q1
            obtain ⟨qv1, qe1⟩ : ∃ a, a = q.n := ⟨_, rfl⟩
            rw [← qe1] at q1
            clear qe1
            have Q2 := Lib.hid q2
            obtain ⟨qv2, qe2⟩ : ∃ a, a = q.b := ⟨_, rfl⟩
            rw [← qe2] at q2
            rw [← qe2] at hne
            clear qe2
            have Q3 := Lib.hid q3
            obtain ⟨qv3, qe3⟩ : ∃ a, a = q.o := ⟨_, rfl⟩
            rw [← qe3] at q3
            clear qe3
            go_upto_region 9 with fail
            go_cut [97] from 64 to 97 (fun s wx => s = .bool false ∧ Below w4.heap.size w4 wx)
            case first =>
              have HCK := Lib.hid (newed_may HE.out)
              go_wp2_with fail
              all_goals
                (with_reducible refine (check_yes _ (HX.out.below (by repeat (first | exact Below.refl _ _ | (with_reducible refine Below.drew ?_) | refine Below.setCell ?_ (by simp) _ | refine Below.alloc ?_ (by simp <;> omega) _))) HCK.out).mono ?_); rintro e w9 ⟨rfl, b⟩
                have b9 := Lib.hid (show Below w4.heap.size w4 w9 from Below.trans (by repeat (first | exact Below.refl _ _ | (with_reducible refine Below.drew ?_) | refine Below.setCell ?_ (by simp) _ | refine Below.alloc ?_ (by simp <;> omega) _)) (b.mono (by simp <;> omega)))
                clear b
                go_wp2
                go_meet
                exact ⟨rfl, b9.out⟩
            case rest =>
              obtain ⟨rfl, hcb⟩ := hcut

              have HC := Lib.hid hcb; clear hcb
              clear p0 p1 p2 p3 q0 q1 q2 q3
              have p0 := cell_below HC.out P0.out
              have p1 := cell_below HC.out P1.out
              have p2 := cell_below HC.out P2.out
              have p3 := cell_below HC.out P3.out
              clear P0 P1 P2 P3 Q0 Q1 Q2 Q3
              replace HX := Lib.hid (HX.out.below HC.out)
              replace HL := Lib.hid (HL.out.below HC.out)
              replace HB := Lib.hid (HB.out.trans (HC.out.mono HB.out.size))
              go_wp2_with fail
              go_loopw [15, 16, 17, 18, 19] (fun s15 _ _ _ _ wr => ∃ k : Nat, k ≤ l.length ∧ s15 = .int .i64 k ∧ Below wc.heap.size wc wr) (fun s15 _ _ _ _ _ => l.length - (intOf s15).toNat)
              case atStart => exact ⟨0, Nat.zero_le _, rfl, Below.refl _ _⟩
              case round =>
                obtain ⟨k, hk, rfl, hb⟩ := hrel
                have HR := Lib.hid hb; clear hb
                replace p0 := cell_below HR.out p0
                replace p1 := cell_below HR.out p1
                replace p2 := cell_below HR.out p2
                replace p3 := cell_below HR.out p3
                replace HX := Lib.hid (HX.out.below HR.out)
                by_cases hlt : k < l.length
                · obtain ⟨ga, oa, rfl, hga, hx0, hxc⟩ := HL.out.get (List.getElem?_eq_getElem hlt)
                  obtain ⟨m1, m2⟩ := fresh_move HE.out hlt
                  obtain ⟨n1, n2⟩ := fresh_load HE.out hlt
                  change loadV _ _ = (⟨l[k]'hlt, 0, 0, 0⟩ : Val) at n2
                  have xc := cell_below HR.out hxc
                  clear hxc
                  have HB0 := HB; have HB := HR
                  have HRR := HR
                  have ps : w2.heap.size < wr.heap.size := World.block_lt_of_cell? wr _ p0
                  have HB := Lib.hid (Below.refl wr.heap.size wr)
                  go_wp2_with fail
                  (with_reducible refine (move_at (x := freshP m k) (i := 0) (freshP m 0) k _ (HX.out.below (by repeat (first | exact Below.refl _ _ | (with_reducible refine Below.drew ?_) | refine Below.setCell ?_ (by simp) _ | refine Below.alloc ?_ (by simp <;> omega) _))) (by omega) m2 m1).mono ?_); rintro e w21 ⟨rfl, b⟩
                  have HW := Lib.hid (show Below wr.heap.size wr w21 from Below.trans (by repeat (first | exact Below.refl _ _ | (with_reducible refine Below.drew ?_) | refine Below.setCell ?_ (by simp) _ | refine Below.alloc ?_ (by simp <;> omega) _)) (b.mono (by simp <;> omega)))
                  replace p0 := cell_below HW.out p0
                  replace p1 := cell_below HW.out p1
                  replace p2 := cell_below HW.out p2
                  replace p3 := cell_below HW.out p3
                  replace ps := Nat.lt_of_lt_of_le ps HW.out.size
                  replace HX := Lib.hid (HX.out.below HW.out)
                  replace HB := Lib.hid (HB.out.trans (HW.out.mono HB.out.size))
                  clear HW b
                  go_wp2_with fail
                  (with_reducible refine (load_at (x := ⟨l[k]'hlt, 0, 0, 0⟩) (i := 0) (freshP m k) _ (HX.out.below (by repeat (first | exact Below.refl _ _ | (with_reducible refine Below.drew ?_) | refine Below.setCell ?_ (by simp) _ | refine Below.alloc ?_ (by simp <;> omega) _))) n2 n1).mono ?_); rintro e w22 ⟨rfl, b⟩
                  have HW := Lib.hid (show Below w21.heap.size w21 w22 from Below.trans (by repeat (first | exact Below.refl _ _ | (with_reducible refine Below.drew ?_) | refine Below.setCell ?_ (by simp) _ | refine Below.alloc ?_ (by simp <;> omega) _)) (b.mono (by simp <;> omega)))
                  have r0 : w22.cell? ⟨w21.heap.size, 0, none⟩ = some (.int .u8 (freshP m k).k) := cell_below b (by first | (simp; done) | go_simp)
                  have r1 : w22.cell? ⟨w21.heap.size, 1, none⟩ = some (.int .i64 (freshP m k).n) := cell_below b (by first | (simp; done) | go_simp)
                  have r2 : w22.cell? ⟨w21.heap.size, 2, none⟩ = some (.int .i64 (freshP m k).b) := cell_below b (by first | (simp; done) | go_simp)
                  have r3 : w22.cell? ⟨w21.heap.size, 3, none⟩ = some (.int .i64 (freshP m k).o) := cell_below b (by first | (simp; done) | go_simp)
                  have rs : w21.heap.size < w22.heap.size := World.block_lt_of_cell? w22 _ r0
                  replace p0 := cell_below HW.out p0
                  replace p1 := cell_below HW.out p1
                  replace p2 := cell_below HW.out p2
                  replace p3 := cell_below HW.out p3
                  replace ps := Nat.lt_of_lt_of_le ps HW.out.size
                  replace HX := Lib.hid (HX.out.below HW.out)
                  replace HB := Lib.hid (HB.out.trans (HW.out.mono HB.out.size))
                  clear HW b
                  replace xc := cell_below HB.out xc
                  clear m1 m2 n1 n2
                  go_wp2_with fail
                  refine wp_world (fun W => Below w22.heap.size w22 W ∧ w22.heap.size < W.heap.size ∧ W.cell? ⟨w22.heap.size, 0, none⟩ = some (.int .u8 (l[k]'hlt)) ∧ W.cell? ⟨w22.heap.size, 1, none⟩ = some (.int .i64 0) ∧ W.cell? ⟨w22.heap.size, 2, none⟩ = some (.int .i64 0) ∧ W.cell? ⟨w22.heap.size, 3, none⟩ = some (.int .i64 0)) ?_ ?_
                  · exact ⟨(by repeat (first | exact Below.refl _ _ | (with_reducible refine Below.drew ?_) | refine Below.setCell ?_ (by simp) _ | refine Below.alloc ?_ (by simp <;> omega) _)), by simp, by simp, by simp, by simp, by simp⟩
                  rintro W ⟨hbW, s0, v0, v1', v2, v3⟩
                  have xg : ga < W.heap.size := World.block_lt_of_cell? W _ (cell_below hbW xc)
                  replace xc := cell_below hbW xc
                  have HB3 := Lib.hid (HR.out.trans ((HB.out.trans (hbW.mono HB.out.size)).mono HR.out.size))
                  clear hbW
                  have cu := upon_cell W W.heap.size
                  refine wp_region_upon (by kernel_rfl) (by kernel_rfl) ?_
                  repeat (go_big_quiet_step (fail))
                  refine wpQuiet_nil ?_
                  intro W2 hb2
                  have HB2 := Lib.hid (HB3.out.trans (hb2.mono HB3.out.size))
                  clear hb2 cu
                  go_wp2
                  go_roundw
                  case rel => exact ⟨k + 1, by omega, by go_num, HB2.out⟩
                  case measure => simp [intOf]; omega
                · have : k = l.length := by omega
                  subst this
                  have ps : w2.heap.size < wr.heap.size := World.block_lt_of_cell? wr _ p0
                  replace HB := Lib.hid (HB.out.trans (HR.out.mono HB.out.size))
                  obtain ⟨m3, m4⟩ := fresh_depth HE.out
                  have m5 := fresh_end HE.out
                  go_wp2_with fail
                  (with_reducible refine (move_at (x := moveV (m ++ [newB 5 6 7 l]) (freshP m 0) l.length) (i := 2) (freshP m 0) l.length _ (HX.out.below (by repeat (first | exact Below.refl _ _ | (with_reducible refine Below.drew ?_) | refine Below.setCell ?_ (by simp) _ | refine Below.alloc ?_ (by simp <;> omega) _))) (by omega) rfl m5).mono ?_); rintro e w31 ⟨rfl, b⟩
                  have HW := Lib.hid (show Below wr.heap.size wr w31 from Below.trans (by repeat (first | exact Below.refl _ _ | (with_reducible refine Below.drew ?_) | refine Below.setCell ?_ (by simp) _ | refine Below.alloc ?_ (by simp <;> omega) _)) (b.mono (by simp <;> omega)))
                  replace p0 := cell_below HW.out p0
                  replace p1 := cell_below HW.out p1
                  replace p2 := cell_below HW.out p2
                  replace p3 := cell_below HW.out p3
                  replace ps := Nat.lt_of_lt_of_le ps HW.out.size
                  replace HX := Lib.hid (HX.out.below HW.out)
                  replace HB := Lib.hid (HB.out.trans (HW.out.mono HB.out.size))
                  clear HW b
                  go_wp2_with fail
                  (with_reducible refine (depth_at (x := 7) (i := 0) (freshP m 0) _ (HX.out.below (by repeat (first | exact Below.refl _ _ | (with_reducible refine Below.drew ?_) | refine Below.setCell ?_ (by simp) _ | refine Below.alloc ?_ (by simp <;> omega) _))) m4 m3).mono ?_); rintro e w32 ⟨rfl, b⟩
                  have HW := Lib.hid (show Below w31.heap.size w31 w32 from Below.trans (by repeat (first | exact Below.refl _ _ | (with_reducible refine Below.drew ?_) | refine Below.setCell ?_ (by simp) _ | refine Below.alloc ?_ (by simp <;> omega) _)) (b.mono (by simp <;> omega)))
                  have r0 : w32.cell? ⟨w31.heap.size, 0, none⟩ = some (.int .u8 (moveV (m ++ [newB 5 6 7 l]) (freshP m 0) l.length).k) := cell_below b (by first | (simp; done) | go_simp)
                  have r1 : w32.cell? ⟨w31.heap.size, 1, none⟩ = some (.int .i64 (moveV (m ++ [newB 5 6 7 l]) (freshP m 0) l.length).n) := cell_below b (by first | (simp; done) | go_simp)
                  have r2 : w32.cell? ⟨w31.heap.size, 2, none⟩ = some (.int .i64 (moveV (m ++ [newB 5 6 7 l]) (freshP m 0) l.length).b) := cell_below b (by first | (simp; done) | go_simp)
                  have r3 : w32.cell? ⟨w31.heap.size, 3, none⟩ = some (.int .i64 (moveV (m ++ [newB 5 6 7 l]) (freshP m 0) l.length).o) := cell_below b (by first | (simp; done) | go_simp)
                  have rs : w31.heap.size < w32.heap.size := World.block_lt_of_cell? w32 _ r0
                  replace p0 := cell_below HW.out p0
                  replace p1 := cell_below HW.out p1
                  replace p2 := cell_below HW.out p2
                  replace p3 := cell_below HW.out p3
                  replace ps := Nat.lt_of_lt_of_le ps HW.out.size
                  replace HX := Lib.hid (HX.out.below HW.out)
                  replace HB := Lib.hid (HB.out.trans (HW.out.mono HB.out.size))
                  clear HW b
                  go_wp2
                  go_ret
                  exact ⟨rfl, HB.out⟩
          · clear hne
            have d2 : (i1 == 0) = false := by simpa using h0
            have P0 := Lib.hid p0
            obtain ⟨pv0, pe0⟩ : ∃ a, a = (freshP m 0).k := ⟨_, rfl⟩
            rw [← pe0] at p0
            clear pe0
            have P1 := Lib.hid p1
            obtain ⟨pv1, pe1⟩ : ∃ a, a = (freshP m 0).n := ⟨_, rfl⟩
            rw [← pe1] at p1
            clear pe1
            have P2 := Lib.hid p2
            obtain ⟨pv2, pe2⟩ : ∃ a, a = (freshP m 0).b := ⟨_, rfl⟩
            rw [← pe2] at p2
            clear pe2
            have P3 := Lib.hid p3
            obtain ⟨pv3, pe3⟩ : ∃ a, a = (freshP m 0).o := ⟨_, rfl⟩
            rw [← pe3] at p3
            clear pe3
            have Q0 := Lib.hid q0
            obtain ⟨qv0, qe0⟩ : ∃ a, a = q.k := ⟨_, rfl⟩
            rw [← qe0] at q0
            clear qe0
            have Q1 := Lib.hid q1
            obtain ⟨qv1, qe1⟩ : ∃ a, a = q.n := ⟨_, rfl⟩
            rw [← qe1] at q1
            clear qe1
            have Q2 := Lib.hid q2
            obtain ⟨qv2, qe2⟩ : ∃ a, a = q.b := ⟨_, rfl⟩
            rw [← qe2] at q2
            clear qe2
            have Q3 := Lib.hid q3
            obtain ⟨qv3, qe3⟩ : ∃ a, a = q.o := ⟨_, rfl⟩
            rw [← qe3] at q3
            clear qe3
            go_upto_region 9 with fail
            go_cut [97] from 64 to 97 (fun s wx => s = .bool false ∧ Below w4.heap.size w4 wx)
            case first =>
              have HCK := Lib.hid (newed_may HE.out)
              go_wp2_with fail
              all_goals
                (with_reducible refine (check_yes _ (HX.out.below (by repeat (first | exact Below.refl _ _ | (with_reducible refine Below.drew ?_) | refine Below.setCell ?_ (by simp) _ | refine Below.alloc ?_ (by simp <;> omega) _))) HCK.out).mono ?_); rintro e w9 ⟨rfl, b⟩
                have b9 := Lib.hid (show Below w4.heap.size w4 w9 from Below.trans (by repeat (first | exact Below.refl _ _ | (with_reducible refine Below.drew ?_) | refine Below.setCell ?_ (by simp) _ | refine Below.alloc ?_ (by simp <;> omega) _)) (b.mono (by simp <;> omega)))
                clear b
                go_wp2
                go_meet
                exact ⟨rfl, b9.out⟩
            case rest =>
              obtain ⟨rfl, hcb⟩ := hcut

              have HC := Lib.hid hcb; clear hcb
              clear p0 p1 p2 p3 q0 q1 q2 q3
              have p0 := cell_below HC.out P0.out
              have p1 := cell_below HC.out P1.out
              have p2 := cell_below HC.out P2.out
              have p3 := cell_below HC.out P3.out
              clear P0 P1 P2 P3 Q0 Q1 Q2 Q3
              replace HX := Lib.hid (HX.out.below HC.out)
              replace HL := Lib.hid (HL.out.below HC.out)
              replace HB := Lib.hid (HB.out.trans (HC.out.mono HB.out.size))
              go_wp2_with fail
              go_loopw [15, 16, 17, 18, 19] (fun s15 _ _ _ _ wr => ∃ k : Nat, k ≤ l.length ∧ s15 = .int .i64 k ∧ Below wc.heap.size wc wr) (fun s15 _ _ _ _ _ => l.length - (intOf s15).toNat)
              case atStart => exact ⟨0, Nat.zero_le _, rfl, Below.refl _ _⟩
              case round =>
                obtain ⟨k, hk, rfl, hb⟩ := hrel
                have HR := Lib.hid hb; clear hb
                replace p0 := cell_below HR.out p0
                replace p1 := cell_below HR.out p1
                replace p2 := cell_below HR.out p2
                replace p3 := cell_below HR.out p3
                replace HX := Lib.hid (HX.out.below HR.out)
                by_cases hlt : k < l.length
                · obtain ⟨ga, oa, rfl, hga, hx0, hxc⟩ := HL.out.get (List.getElem?_eq_getElem hlt)
                  obtain ⟨m1, m2⟩ := fresh_move HE.out hlt
                  obtain ⟨n1, n2⟩ := fresh_load HE.out hlt
                  change loadV _ _ = (⟨l[k]'hlt, 0, 0, 0⟩ : Val) at n2
                  have xc := cell_below HR.out hxc
                  clear hxc
                  have HB0 := HB; have HB := HR
                  have HRR := HR
                  have ps : w2.heap.size < wr.heap.size := World.block_lt_of_cell? wr _ p0
                  have HB := Lib.hid (Below.refl wr.heap.size wr)
                  go_wp2_with fail
                  (with_reducible refine (move_at (x := freshP m k) (i := 0) (freshP m 0) k _ (HX.out.below (by repeat (first | exact Below.refl _ _ | (with_reducible refine Below.drew ?_) | refine Below.setCell ?_ (by simp) _ | refine Below.alloc ?_ (by simp <;> omega) _))) (by omega) m2 m1).mono ?_); rintro e w21 ⟨rfl, b⟩
                  have HW := Lib.hid (show Below wr.heap.size wr w21 from Below.trans (by repeat (first | exact Below.refl _ _ | (with_reducible refine Below.drew ?_) | refine Below.setCell ?_ (by simp) _ | refine Below.alloc ?_ (by simp <;> omega) _)) (b.mono (by simp <;> omega)))
                  replace p0 := cell_below HW.out p0
                  replace p1 := cell_below HW.out p1
                  replace p2 := cell_below HW.out p2
                  replace p3 := cell_below HW.out p3
                  replace ps := Nat.lt_of_lt_of_le ps HW.out.size
                  replace HX := Lib.hid (HX.out.below HW.out)
                  replace HB := Lib.hid (HB.out.trans (HW.out.mono HB.out.size))
                  clear HW b
                  go_wp2_with fail
                  (with_reducible refine (load_at (x := ⟨l[k]'hlt, 0, 0, 0⟩) (i := 0) (freshP m k) _ (HX.out.below (by repeat (first | exact Below.refl _ _ | (with_reducible refine Below.drew ?_) | refine Below.setCell ?_ (by simp) _ | refine Below.alloc ?_ (by simp <;> omega) _))) n2 n1).mono ?_); rintro e w22 ⟨rfl, b⟩
                  have HW := Lib.hid (show Below w21.heap.size w21 w22 from Below.trans (by repeat (first | exact Below.refl _ _ | (with_reducible refine Below.drew ?_) | refine Below.setCell ?_ (by simp) _ | refine Below.alloc ?_ (by simp <;> omega) _)) (b.mono (by simp <;> omega)))
                  have r0 : w22.cell? ⟨w21.heap.size, 0, none⟩ = some (.int .u8 (freshP m k).k) := cell_below b (by first | (simp; done) | go_simp)
                  have r1 : w22.cell? ⟨w21.heap.size, 1, none⟩ = some (.int .i64 (freshP m k).n) := cell_below b (by first | (simp; done) | go_simp)
                  have r2 : w22.cell? ⟨w21.heap.size, 2, none⟩ = some (.int .i64 (freshP m k).b) := cell_below b (by first | (simp; done) | go_simp)
                  have r3 : w22.cell? ⟨w21.heap.size, 3, none⟩ = some (.int .i64 (freshP m k).o) := cell_below b (by first | (simp; done) | go_simp)
                  have rs : w21.heap.size < w22.heap.size := World.block_lt_of_cell? w22 _ r0
                  replace p0 := cell_below HW.out p0
                  replace p1 := cell_below HW.out p1
                  replace p2 := cell_below HW.out p2
                  replace p3 := cell_below HW.out p3
                  replace ps := Nat.lt_of_lt_of_le ps HW.out.size
                  replace HX := Lib.hid (HX.out.below HW.out)
                  replace HB := Lib.hid (HB.out.trans (HW.out.mono HB.out.size))
                  clear HW b
                  replace xc := cell_below HB.out xc
                  clear m1 m2 n1 n2
                  go_wp2_with fail
                  refine wp_world (fun W => Below w22.heap.size w22 W ∧ w22.heap.size < W.heap.size ∧ W.cell? ⟨w22.heap.size, 0, none⟩ = some (.int .u8 (l[k]'hlt)) ∧ W.cell? ⟨w22.heap.size, 1, none⟩ = some (.int .i64 0) ∧ W.cell? ⟨w22.heap.size, 2, none⟩ = some (.int .i64 0) ∧ W.cell? ⟨w22.heap.size, 3, none⟩ = some (.int .i64 0)) ?_ ?_
                  · exact ⟨(by repeat (first | exact Below.refl _ _ | (with_reducible refine Below.drew ?_) | refine Below.setCell ?_ (by simp) _ | refine Below.alloc ?_ (by simp <;> omega) _)), by simp, by simp, by simp, by simp, by simp⟩
                  rintro W ⟨hbW, s0, v0, v1', v2, v3⟩
                  have xg : ga < W.heap.size := World.block_lt_of_cell? W _ (cell_below hbW xc)
                  replace xc := cell_below hbW xc
                  have HB3 := Lib.hid (HR.out.trans ((HB.out.trans (hbW.mono HB.out.size)).mono HR.out.size))
                  clear hbW
                  have cu := upon_cell W W.heap.size
                  refine wp_region_upon (by kernel_rfl) (by kernel_rfl) ?_
                  repeat (go_big_quiet_step (fail))
                  refine wpQuiet_nil ?_
                  intro W2 hb2
                  have HB2 := Lib.hid (HB3.out.trans (hb2.mono HB3.out.size))
                  clear hb2 cu
                  go_wp2
                  go_roundw
                  case rel => exact ⟨k + 1, by omega, by go_num, HB2.out⟩
                  case measure => simp [intOf]; omega
                · have : k = l.length := by omega
                  subst this
                  have ps : w2.heap.size < wr.heap.size := World.block_lt_of_cell? wr _ p0
                  replace HB := Lib.hid (HB.out.trans (HR.out.mono HB.out.size))
                  obtain ⟨m3, m4⟩ := fresh_depth HE.out
                  have m5 := fresh_end HE.out
                  go_wp2_with fail
                  (with_reducible refine (move_at (x := moveV (m ++ [newB 5 6 7 l]) (freshP m 0) l.length) (i := 2) (freshP m 0) l.length _ (HX.out.below (by repeat (first | exact Below.refl _ _ | (with_reducible refine Below.drew ?_) | refine Below.setCell ?_ (by simp) _ | refine Below.alloc ?_ (by simp <;> omega) _))) (by omega) rfl m5).mono ?_); rintro e w31 ⟨rfl, b⟩
                  have HW := Lib.hid (show Below wr.heap.size wr w31 from Below.trans (by repeat (first | exact Below.refl _ _ | (with_reducible refine Below.drew ?_) | refine Below.setCell ?_ (by simp) _ | refine Below.alloc ?_ (by simp <;> omega) _)) (b.mono (by simp <;> omega)))
                  replace p0 := cell_below HW.out p0
                  replace p1 := cell_below HW.out p1
                  replace p2 := cell_below HW.out p2
                  replace p3 := cell_below HW.out p3
                  replace ps := Nat.lt_of_lt_of_le ps HW.out.size
                  replace HX := Lib.hid (HX.out.below HW.out)
                  replace HB := Lib.hid (HB.out.trans (HW.out.mono HB.out.size))
                  clear HW b
                  go_wp2_with fail
                  (with_reducible refine (depth_at (x := 7) (i := 0) (freshP m 0) _ (HX.out.below (by repeat (first | exact Below.refl _ _ | (with_reducible refine Below.drew ?_) | refine Below.setCell ?_ (by simp) _ | refine Below.alloc ?_ (by simp <;> omega) _))) m4 m3).mono ?_); rintro e w32 ⟨rfl, b⟩
                  have HW := Lib.hid (show Below w31.heap.size w31 w32 from Below.trans (by repeat (first | exact Below.refl _ _ | (with_reducible refine Below.drew ?_) | refine Below.setCell ?_ (by simp) _ | refine Below.alloc ?_ (by simp <;> omega) _)) (b.mono (by simp <;> omega)))
                  have r0 : w32.cell? ⟨w31.heap.size, 0, none⟩ = some (.int .u8 (moveV (m ++ [newB 5 6 7 l]) (freshP m 0) l.length).k) := cell_below b (by first | (simp; done) | go_simp)
                  have r1 : w32.cell? ⟨w31.heap.size, 1, none⟩ = some (.int .i64 (moveV (m ++ [newB 5 6 7 l]) (freshP m 0) l.length).n) := cell_below b (by first | (simp; done) | go_simp)
                  have r2 : w32.cell? ⟨w31.heap.size, 2, none⟩ = some (.int .i64 (moveV (m ++ [newB 5 6 7 l]) (freshP m 0) l.length).b) := cell_below b (by first | (simp; done) | go_simp)
                  have r3 : w32.cell? ⟨w31.heap.size, 3, none⟩ = some (.int .i64 (moveV (m ++ [newB 5 6 7 l]) (freshP m 0) l.length).o) := cell_below b (by first | (simp; done) | go_simp)
                  have rs : w31.heap.size < w32.heap.size := World.block_lt_of_cell? w32 _ r0
                  replace p0 := cell_below HW.out p0
                  replace p1 := cell_below HW.out p1
                  replace p2 := cell_below HW.out p2
                  replace p3 := cell_below HW.out p3
                  replace ps := Nat.lt_of_lt_of_le ps HW.out.size
                  replace HX := Lib.hid (HX.out.below HW.out)
                  replace HB := Lib.hid (HB.out.trans (HW.out.mono HB.out.size))
                  clear HW b
                  go_wp2
                  go_ret
                  exact ⟨rfl, HB.out⟩
      · generalize hi : newI m 5 6 7 l = i at he
        have e2 : (i != 0) = true := by simpa using he
        have hr : newR m 5 6 7 l = [] := by rw [newR, hi, if_neg he]
        go_wp2_with fail
        (with_reducible refine (new_at (r := []) (p := newV m 5 6 7 l) (i := i) 5 6 7 _ (HM.out.below (by repeat (first | exact Below.refl _ _ | (with_reducible refine Below.drew ?_) | refine Below.setCell ?_ (by simp) _ | refine Below.alloc ?_ (by simp <;> omega) _))) (HL.out.below (by repeat (first | exact Below.refl _ _ | (with_reducible refine Below.drew ?_) | refine Below.setCell ?_ (by simp) _ | refine Below.alloc ?_ (by simp <;> omega) _))) (by omega) hr rfl hi).mono ?_); rintro e w2 ⟨v1, rfl, lay, b⟩
        have HW := Lib.hid (show Below w1.heap.size w1 w2 from Below.trans (by repeat (first | exact Below.refl _ _ | (with_reducible refine Below.drew ?_) | refine Below.setCell ?_ (by simp) _ | refine Below.alloc ?_ (by simp <;> omega) _)) (b.mono (by simp <;> omega)))
        replace q0 := cell_below HW.out q0
        replace q1 := cell_below HW.out q1
        replace q2 := cell_below HW.out q2
        replace q3 := cell_below HW.out q3
        replace qs := Nat.lt_of_lt_of_le qs HW.out.size
        replace HM := Lib.hid (HM.out.below HW.out)
        replace HL := Lib.hid (HL.out.below HW.out)
        replace HB := Lib.hid (HB.out.trans (HW.out.mono HB.out.size))
        clear HW b
        obtain ⟨A, c, rfl, _⟩ := lay.len; clear lay
        go_wp2
        go_ret
        exact ⟨rfl, HB.out.alloc HB.out.size _⟩
  · go_wp2_with fail
    (with_reducible refine (great_at hg _ (HM.out.below (by repeat (first | exact Below.refl _ _ | (with_reducible refine Below.drew ?_) | refine Below.setCell ?_ (by simp) _ | refine Below.alloc ?_ (by simp <;> omega) _)))).mono ?_); rintro e _ ⟨rfl, rfl⟩
    go_wp2
    go_ret
    exact ⟨rfl, HB.out⟩


/-! ### THE ROW's STEP -/
theorem own : ownKnob Try.prog.godebug = none := by kernel_rfl

theorem laidOut : laidOutB Try.prog = true := by kernel_rfl

set_option maxRecDepth 100000 in
theorem lifted (os : Os) (started : os.Started) (H : Type) (enc : TypeId × Value → H) :
    ReturnsInHanded {} Try.checked os 10 .any (Rows.memFreshSpec.pre6 enc Try.prog Try.f10 Rows.memFreshRow.domain false) (Rows.memFreshSpec.post enc Try.prog Try.f10 false true false false) := by
  refine returnsInHanded_of_change (C := Try.checked) own started (by kernel_rfl) Try.func10
    (ChangeSpec.witness6 (enc := enc) (C := Try.checked) false ⟨#[], #[.slice none 0 0, .slice none 0 0, .agg #[.int .u8 0, .int .i64 0, .int .i64 0, .int .i64 0]], []⟩ 8 (by kernel_rfl) (by kernel_rfl) (by kernel_rfl) (by kernel_rfl)) ?_
  intro W base args ds gs before hval0 hW hcnd _
  have hval : ∀ (j : Nat) t v, Try.f10.params[j]? = some t → args[j]? = some v → Value.okWide Try.prog W .any base t v := hval0
  have hW' := hW
  obtain ⟨p, q, hA0, hV, rfl, hfz, hnd⟩ := hW
  have hA : DataW.TrodAll enc Try.prog W 0 (fun _ => true) true Try.f10.params.toList args.toList ds p := hA0
  rw [Try.params10] at hA hval
  obtain ⟨v0, vs0, d0, ds0, p0, q0, hargs, rfl, rfl, h0, r0⟩ := trodAll_cons hA
  obtain ⟨v1, vs1, d1, ds1, p1, q1, rfl, rfl, rfl, h1, r1⟩ := trodAll_cons r0
  obtain ⟨v2, vs2, d2, ds2, p2, q2, rfl, rfl, rfl, h2, r2⟩ := trodAll_cons r1
  obtain ⟨rfl, rfl, rfl⟩ := trodAll_nil r2
  obtain rfl : args = #[v0, v1, v2] := by cases args; simp_all
  obtain ⟨rfl, rfl⟩ := trodVars_none hV
  obtain ⟨m0, hm0⟩ := open_blks (hval 0 22 v0 rfl rfl) h0
  obtain ⟨l1, hl1⟩ := open_ks (hval 1 35 v1 rfl rfl) h1
  obtain ⟨k2, n2, b2, o2, rfl, kw2, nw2, bw2, ow2⟩ := open_val (hval 2 24 v2 rfl rfl) h2
  refine (core ⟨k2, n2, b2, o2⟩ W hm0 hl1).mono fun e W' ⟨he, hg⟩ => ?_
  subst he
  exact ⟨_, rfl, law_post laidOut (by
    intro t ht
    simp only [Try.params10, List.mem_cons, List.not_mem_nil, or_false] at ht
    rcases ht with rfl | rfl | rfl <;> exact ⟨by kernel_rfl, of_decide_eq_true (by kernel_rfl)⟩) rfl rfl Try.underlying4 rfl hW' hg⟩

theorem over : Rows.memFreshRow.holds Try.pinned (OpenSpec.ofChange Rows.memFreshSpec) :=
  OpenClaim.holds_of_wide 10 Try.f10 rfl rfl rfl rfl rfl rfl rfl ⟨rfl, rfl, rfl, rfl, rfl⟩ rfl rfl rfl rfl rfl (by kernel_rfl) Try.func10 (by kernel_rfl)
    (of_decide_eq_true (by kernel_rfl)) (by unfold Func.isWrapper; first | (rw [if_pos (by decide +kernel)]; kernel_rfl) | (rw [if_neg (by decide +kernel)]; exact ⟨rfl, rfl⟩))
    (fun os started H enc _ => lifted os started H enc)

theorem proved : Rows.MemFreshSaid :=
  over
#print axioms proved

end Go.Proofs.Ytmelamlngjflkaa.memFresh

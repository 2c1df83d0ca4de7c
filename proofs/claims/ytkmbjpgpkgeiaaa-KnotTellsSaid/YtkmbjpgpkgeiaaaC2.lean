/- The contract of a visit. -/
import Derived.Test.YtkmbjpgpkgeiaaaRows
import Derived.WalkKit
import Derived.ProofKit
import Derived.OpenShut
import Derived.Below
import Derived.Outline
import Derived.LoopTactic
import Derived.Lib.Hide
import Derived.WalkSpells
import Derived.RegionTactic
import Derived.BigRegion
import Derived.Deep.QuietTactic
import Derived.BigQuiet
import Derived.Deep.RegionWith
import Derived.Deep.RegionLaw
import Derived.Deep.AppendLies
import Derived.Maps.OwnOps
import Derived.IntWalk
import Derived.Test.YtkmbjpgpkgeiaaaC1
namespace Go.Proofs.Ytkmbjpgpkgeiaaa
open Go.ChangeShapes Go.WideShapes Go.ChangeAt Go.RowKit
set_option linter.unusedVariables false

attribute [local go_sem ↓] run_min2 run_max2
theorem run_index32 (x y : Int) : ∀ w : World, (Instr.index 32 (.agg #[.int .i64 x, .int .i64 y]) (.int .i64 0)).run Try.prog w = .ok (.int .i64 x) w := fun _ => by kernel_rfl
set_option maxHeartbeats 4000000 in
theorem visit_any {w0 : World} {B0 h n gto : Nat} {xss : List (List Int)} {clo : Value} {to : Nat → List Nat} (hn : n ≤ 1000) (hto : ∀ a, a < n → xss[a]? = some (cI (to a))) (hlt : ∀ a, a < n → ∀ b ∈ to a, b < n) (hlen : ∀ a, a < n → (to a).length ≤ 10000) (hclo : clo = .func (Fn.func 31) #[] #[.pointer (some ⟨h + 3, 0, none⟩), .pointer (some ⟨h + 4, 0, none⟩), .pointer (some ⟨h, 0, none⟩), .pointer (some ⟨h + 5, 0, none⟩), .pointer (some ⟨B0 + 1, 0, none⟩), .pointer (some ⟨B0 + 2, 0, none⟩), .pointer (some ⟨B0, 0, none⟩)]) :
    ∀ (d : Nat) (s : St) (G : List Nat) (a : Nat) (w : World), n - s.ks.length ≤ d → Inv to n s G → a ∉ s.ks → a < n → (∀ g ∈ G, Reach to g a) → Knows w0 B0 h n gto xss clo s w →
      Calls Try.prog 31 #[.int .i64 a, .pointer (some ⟨h + 3, 0, none⟩), .pointer (some ⟨h + 4, 0, none⟩), .pointer (some ⟨h, 0, none⟩), .pointer (some ⟨h + 5, 0, none⟩), .pointer (some ⟨B0 + 1, 0, none⟩), .pointer (some ⟨B0 + 2, 0, none⟩), .pointer (some ⟨B0, 0, none⟩)] w (VisP w0 B0 h n gto xss clo to G s a) := by
  subst hclo
  intro d
  induction d with
  | zero =>
    intro s G a w hd hi hf ha _ _
    have := hi.ks_lt ha hf
    omega
  | succ d ih =>
    intro s G a w hd hi hf ha hr hk
    have IH := Lib.hid ih; clear ih
    have HD := Lib.hid hd; clear hd
    have HI0 := Lib.hid hi
    have HR0 := Lib.hid hr; clear hr
    have HF := Lib.hid hf
    obtain ⟨vo, va, hs, pl, R, hp⟩ := hk
    have HP := Lib.hid hp; clear hp
    have hksn := hi.ks_lt ha hf
    have hstn := hi.st_le
    obtain ⟨Ao, co, rfl⟩ := own_slice R.oo
    obtain ⟨w1, hput, hk1, hg1⟩ := R.km.new hn (by omega) ha hf
    have hln := R.km.len
    obtain ⟨_, c3, _⟩ := R.cells
    have R1 := R.put hg1 hk1
    have HR1 := Lib.hid R1
    obtain ⟨_, _, d4, _⟩ := R1.cells
    obtain ⟨Ah, ch, e0, e1, _, _, _⟩ := R.rows.get (hto a ha)
    rw [cI_len] at e0 e1
    have E0 := Lib.hid e0
    have E1 := Lib.hid e1
    clear e0 e1 hk1 hg1 R R1 hi
    obtain ⟨i0, hi, hz0, hz1, hz2⟩ := info_parts info3
    have HI := Lib.hid hi; clear hi
    have HZ0 := Lib.hid hz0; clear hz0
    have HZ1 := Lib.hid hz1; clear hz1
    have HZ2 := Lib.hid hz2; clear hz2
    have HLN : Hid (s.st.length + 1 ≤ maxLen ∧ (s.st.length + 1) * 8 ≤ 140737488355328) := by unfold Hid maxLen; omega
    have HTO := Lib.hid hto; clear hto
    have HLT := Lib.hid hlt; clear hlt
    have HLEN := Lib.hid (hlen a ha); clear hlen
    have hlena := HLEN.out
    have HZW := Lib.hid HR1.out.big
    go_enter Try.func31, Try.ntmps31
    go_wp2_with (at_builtin; refine wpList_append_lies _ rfl _ _ 25 rfl (h + 6) 3 i0 _ 1 8 Try.underlying25 HI.out HZ0.out HZ1.out HZ2.out rfl (by decide) _ s.st.length ((cI s.st).map iv) rfl (own_below HR1.out.oo (by repeat (first | exact Below.refl _ _ | (with_reducible refine Below.drew ?_) | refine Below.setCell ?_ (by simp) _ | refine Below.alloc ?_ (by first | omega | (simp; done) | (simp; omega)) _))) ⟨w1.heap.size, 0, none⟩ 1 1 [iv a] rfl rfl (cell_one_new _ _ _) (by intro u hu; simp at hu; subst hu; rfl) (by decide) HLN.out.1 HLN.out.2 (by have := HZW.out; simp; omega) _ rfl ?_; intro g cap w6 hrow hgrow hat hg6; obtain ⟨X0, X1, X4, F4, Z4, N4, ZG, PUSH⟩ := HR1.out.mid (by repeat (first | exact Below.refl _ _ | (with_reducible refine Below.drew ?_) | refine Below.setCell ?_ (by simp) _ | refine Below.alloc ?_ (by first | omega | (simp; done) | (simp; omega)) _)) rfl hrow hgrow hat E0.out; clear hrow hgrow hat)
    go_loopw [11, 13, 14, 15, 36] (fun low _ _ _ i wr => ∃ (k : Nat) (t : St) (lo : Nat) (kn new : List Nat) (an : List (List Nat)), k ≤ (to a).length ∧ i = .int .i64 k ∧ low = .int .i64 lo ∧ LInv to n G s a k t lo kn new an ∧ Knows w0 B0 h n gto xss (.func (Fn.func 31) #[] #[.pointer (some ⟨h + 3, 0, none⟩), .pointer (some ⟨h + 4, 0, none⟩), .pointer (some ⟨h, 0, none⟩), .pointer (some ⟨h + 5, 0, none⟩), .pointer (some ⟨B0 + 1, 0, none⟩), .pointer (some ⟨B0 + 2, 0, none⟩), .pointer (some ⟨B0, 0, none⟩)]) t wr) (fun _ _ _ _ i _ => (to a).length - (intOf i).toNat)
    case atStart => exact ⟨0, ⟨s.ks ++ [a], s.st ++ [a], s.al⟩, s.ks.length, [], [], [], Nat.zero_le _, rfl, rfl, LInv.start HI0.out HF.out ha HR0.out, _, va, hs, pl, PUSH.out _ (by repeat (first | exact Below.refl _ _ | (with_reducible refine Below.drew ?_))), HP.out⟩
    case round =>
      clear c3 d4 X0 X1 X4 F4 Z4 N4 ZG PUSH hput hln HZW HR1
      obtain ⟨k, t, lo, kn, new, an, hk, rfl, rfl, hL, hK⟩ := hrel
      have HL := Lib.hid hL; clear hL
      have HK := Lib.hid hK; clear hK
      have hlo := HL.out.lle
      have htn := HL.out.inv.ks_le
      by_cases hlt : k < (to a).length
      · have HLK := Lib.hid hlt
        obtain ⟨b, hb⟩ : ∃ b, (to a)[k]? = some b := ⟨_, List.getElem?_eq_getElem hlt⟩
        have HB := Lib.hid hb
        have HBM := Lib.hid (List.mem_of_getElem? hb)
        have hbn := HLT.out a ha b HBM.out
        obtain ⟨vo2, va2, hs2, pl2, R, hp⟩ := HK.out
        obtain ⟨_, c3, _, c5, _⟩ := R.cells
        have hbig := R.big
        obtain ⟨gr, orr, rfl, hgr, q0⟩ := (R.rowi (v := .slice Ah (to a).length ch) (xs := cI (to a)) (by rw [cI_len]; exact E1.out)).get (i := k) (x := (b : Int)) (by simp [cI, hb])
        by_cases hbk : b ∈ t.ks
        · by_cases hbs : b ∈ t.st
          · have HBS := Lib.hid hbs
            have hlk := R.km.look_in hn hbn hbk
            have e1 : opI t.ks t.st b = numI t.ks b := if_pos hbs
            obtain ⟨m, hm⟩ : ∃ m, t.num b = m := ⟨_, rfl⟩
            have HM := Lib.hid hm
            have e2 : numI t.ks b = (m : Int) := by rw [← hm]; rfl
            rw [e1, e2] at hlk
            clear e1 e2 hm hb R hp hbk hbs
            have hm0 : (0 : Int) ≤ (m : Int) := by omega
            go_wp2
            go_roundw
            case rel => exact ⟨k + 1, t, min lo m, kn, new, an, HLK.out, by go_num, by rw [mn_nat], by rw [← HM.out]; exact HL.out.open HB.out HBS.out, HK.out.below (by repeat (first | exact Below.refl _ _ | (with_reducible refine Below.drew ?_) | refine Below.setCell ?_ (by simp) _ | refine Below.alloc ?_ (by first | omega | (simp; done) | (simp; omega)) _))⟩
            case measure => have := HLK.out; simp [intOf]; omega
          · have HBS := Lib.hid hbs
            have HBK := Lib.hid hbk
            have hlk := R.km.look_in hn hbn hbk
            have e1 : opI t.ks t.st b = -1 := if_neg hbs
            rw [e1] at hlk
            obtain ⟨m, hm⟩ : ∃ m, numI t.ks b = m := ⟨_, rfl⟩
            rw [hm] at hlk
            clear e1 hm hb R hp hbk hbs
            go_wp2
            go_roundw
            case rel => exact ⟨k + 1, t, lo, kn, new, an, HLK.out, by go_num, rfl, HL.out.known HB.out HBK.out HBS.out, HK.out.below (by repeat (first | exact Below.refl _ _ | (with_reducible refine Below.drew ?_) | refine Below.setCell ?_ (by simp) _ | refine Below.alloc ?_ (by first | omega | (simp; done) | (simp; omega)) _))⟩
            case measure => have := HLK.out; simp [intOf]; omega
        · have HBK := Lib.hid hbk
          have hlk := R.km.look_out hn hbn hbk
          have HDD : Hid (n - t.ks.length ≤ d) := by
            have h1 := HD.out
            have h2 : t.ks.length = s.ks.length + (kn.length + 1) := by rw [HL.out.ks]; simp
            unfold Hid
            omega
          clear hb R hp hbk
          go_wp2_with (go_at_call 31; refine (IH.out t (a :: G) b _ HDD.out HL.out.inv HBK.out hbn (HL.out.pre HBM.out) (HK.out.below (by repeat (first | exact Below.refl _ _ | (with_reducible refine Below.drew ?_) | refine Below.setCell ?_ (by simp) _ | refine Below.alloc ?_ (by first | omega | (simp; done) | (simp; omega)) _)))).mono ?_; rintro e w' ⟨t2, lo2, kn2, new2, an2, rfl, hpost, hk2⟩; have HPO := Lib.hid hpost; have HK2 := Lib.hid hk2; clear hpost hk2)
          go_wp2
          go_roundw
          case rel => exact ⟨k + 1, t2, min lo lo2, _, _, _, HLK.out, by go_num, by rw [mn_nat], HL.out.deep HB.out HBK.out (by omega) HPO.out, HK2.out⟩
          case measure => have := HLK.out; simp [intOf]; omega
      · obtain rfl : k = (to a).length := by omega
        by_cases hll : lo < s.ks.length
        · have HLL := Lib.hid hll
          go_wp2
          go_ret
          exact ⟨t, lo, a :: kn, a :: new, an, rfl, HL.out.stays (Nat.le_refl _) HLL.out, HK.out⟩
        · have HLL := Lib.hid hll
          clear hll
          obtain ⟨vo2, va2, hs2, pl2, R, hp⟩ := HK.out
          have HP2 := Lib.hid hp; clear hp
          obtain ⟨Ao, co, rfl⟩ := own_slice R.oo
          obtain ⟨Aa, ca, rfl⟩ := own_slice R.ao
          have hst := HL.out.st
          have hnod := HL.out.inv.st_nod
          have hpq : t.st.length = s.st.length + (a :: new).length := by rw [hst, List.length_append]
          obtain ⟨go, rfl, hco, hcm, hdr⟩ := own_drop R.oo (k := s.st.length) (by rw [hpq]; simp)
          have hix : ∀ w : World, IsAt w (.slice (some ⟨go, 0, none⟩) t.st.length co) (cI t.st) → Calls Try.prog 32 #[.slice (some ⟨go, 0, none⟩) t.st.length co, .int .i64 a] w fun e w' => e = .returned (.int .i64 (s.st.length : Nat)) ∧ w = w' := by
            intro w hw
            have := indexOf_any (a : Int) w hw
            rw [hst, idx_open (by rw [← hst]; exact hnod), ← hst] at this
            exact this
          have HIX := Lib.hid hix; clear hix
          have HIS := Lib.hid (IsAt.own (by rw [cI_len]; exact R.oo) : IsAt wr (.slice (some ⟨go, 0, none⟩) t.st.length co) (cI t.st))
          obtain ⟨_, c3, c4, c5, cA, cP, cN, f4, fA, fP⟩ := R.cells
          have hbig := R.big
          have HRR := Lib.hid R
          have HST := Lib.hid hst
          have HNOD := Lib.hid hnod
          have htst := HL.out.inv.st_le
          obtain ⟨p, hp⟩ : ∃ p, s.st.length = p := ⟨_, rfl⟩
          have hpt : p < t.st.length := by rw [← hp, hpq]; simp
          have hq : t.st.length - p = (a :: new).length := by rw [← hp, hpq]; omega
          obtain ⟨q, hq2⟩ : ∃ q, (a :: new).length = q := ⟨_, rfl⟩
          rw [hq2] at hq
          have HQ2 := Lib.hid hq2
          have HPP := Lib.hid hp
          have HPQ := Lib.hid hpq
          clear R hst hnod hpq hq2
          rw [hp, hq] at hdr
          rw [hp] at HIX
          have HDR := Lib.hid hdr
          clear hdr hp
          go_wp2_with (go_at_call 32; refine (HIX.out _ (HIS.out.below (by repeat (first | exact Below.refl _ _ | (with_reducible refine Below.drew ?_) | refine Below.setCell ?_ (by simp) _ | refine Below.alloc ?_ (by first | omega | (simp; done) | (simp; omega)) _)))).mono ?_; rintro e w' ⟨rfl, rfl⟩)
          obtain ⟨wo, rfl⟩ : ∃ wo : World, wo = wr := ⟨_, rfl⟩
          go_loopw [18, 72] (fun _ i wr => ∃ (j : Nat) (pl3 : List Int), j ≤ q ∧ i = .int .i64 j ∧ Rep w0 B0 h n gto xss (.func (Fn.func 31) #[] #[.pointer (some ⟨h + 3, 0, none⟩), .pointer (some ⟨h + 4, 0, none⟩), .pointer (some ⟨h, 0, none⟩), .pointer (some ⟨h + 5, 0, none⟩), .pointer (some ⟨B0 + 1, 0, none⟩), .pointer (some ⟨B0 + 2, 0, none⟩), .pointer (some ⟨B0, 0, none⟩)]) (.slice (some ⟨go, 0, none⟩) t.st.length co) (.slice Aa t.al.length ca) hs2 pl3 t.ks (s.st ++ (a :: new).drop j) t.st t.al wr ∧ Placed pl3 t.al ∧ ∀ x ∈ (a :: new).take j, pl3[x]? = some ((t.al.length : Nat) : Int)) (fun _ i _ => q - (intOf i).toNat)
          case atStart => exact ⟨0, pl2, Nat.zero_le _, rfl, by have := HRR.out; rw [show s.st ++ (a :: new).drop 0 = t.st from HST.out.symm]; exact this, HP2.out, by simp⟩
          case round =>
            clear c3 c4 c5 cA cP cN f4 fA fP hbig
            obtain ⟨j, pl3, hj, rfl, R, hp3, hc3⟩ := hrel
            have HRA := Lib.hid R
            have HP3 := Lib.hid hp3; clear hp3
            have HC3 := Lib.hid hc3; clear hc3
            obtain ⟨_, c3, c4, c5, cA, cP, cN, f4, fA, fP⟩ := R.cells
            have hbig := R.big
            by_cases hjq : j < q
            · have HJQ := Lib.hid hjq
              obtain ⟨x, hx⟩ : ∃ x, (a :: new)[j]? = some x := ⟨_, List.getElem?_eq_getElem (by rw [HQ2.out]; exact hjq)⟩
              have HX := Lib.hid hx
              have hxst : x ∈ t.st := by rw [HST.out]; exact List.mem_append_right _ (List.mem_of_getElem? hx)
              have hxn := HL.out.inv.st_lt hxst
              have hxk := HL.out.inv.st_ks hxst
              obtain ⟨gd, od, hda, hgl, q0⟩ := (open_at R.oo HQ2.out HPP.out HST.out hpt).get (open_get HST.out HPP.out hx)
              injection hda with hda
              injection hda with hd1 hd2 _
              subst hd1 hd2
              obtain ⟨cpl, _, hcp⟩ := R.place_cell hxn
              have R2 := R.place x (t.al.length : Nat)
              have hlk := R2.km.look1 hn hxn hxk
              obtain ⟨w2, hput, hk2, hg2⟩ := R2.km.shut hn (by omega) hxn hxk (open_less (by rw [← HST.out]; exact HNOD.out) hx)
              have R3 := Lib.hid (R2.put hg2 hk2)
              have hpll := Lib.hid R.pn
              obtain ⟨m, hm⟩ : ∃ m, numI t.ks x = m := ⟨_, rfl⟩
              obtain ⟨o2, ho2⟩ : ∃ m, opI t.ks (s.st ++ (a :: new).drop j) x = m := ⟨_, rfl⟩
              rw [hm, ho2] at hlk
              rw [hm] at hput
              have hix := run_index32 m o2
              simp only [iv] at hlk hput
              clear R R2 hk2 hg2 hm ho2 hx hxst hxk
              go_wp2
              go_roundw
              case rel => exact ⟨j + 1, pl3.set x (t.al.length : Nat), HJQ.out, by go_num, R3.out, placed_set HP3.out (fun c hc hxc => (HL.out.inv.alk c hc x hxc).2 (by rw [HST.out]; exact List.mem_append_right _ (List.mem_of_getElem? HX.out))) HC3.out HX.out (by rw [hpll.out]; exact hxn)⟩
              case measure => have := HJQ.out; simp [intOf]; omega
            · obtain rfl : j = q := by omega
              have hqle : j ≤ n := by have := HPQ.out; rw [HQ2.out] at this; omega
              have HOA := Lib.hid (open_cI (open_at R.oo HQ2.out HPP.out HST.out hpt) HST.out HPP.out)
              have hal := HL.out.inv.al_le
              have HAO := Lib.hid R.ao
              have HLN2 : Hid (t.al.length + 1 ≤ maxLen ∧ (t.al.length + 1) * 24 ≤ 140737488355328) := by unfold Hid maxLen; omega
              have HSZ : Hid (h + 6 ≤ wr.heap.size) := by unfold Hid; omega
              have HQN : Hid ((cI (a :: new)).length ≤ 2000) := by unfold Hid; rw [cI_len, HQ2.out]; omega
              obtain ⟨j0, hj0, hy0, hy1, hy2⟩ := info_parts info25
              have HJ := Lib.hid hj0; clear hj0
              have HY0 := Lib.hid hy0; clear hy0
              have HY1 := Lib.hid hy1; clear hy1
              have HY2 := Lib.hid hy2; clear hy2
              have hpt2 : p ≤ t.st.length := Nat.le_of_lt hpt
              have hcp : ¬ co = p := by omega
              clear R fP cP c3 c5
              go_wp2_with fail
              go_region_law (first
                | (go_simp; go_at_call 33; refine (clone_any _ (HOA.out.below (by repeat (first | exact Below.refl _ _ | (with_reducible refine Below.drew ?_) | refine Below.alloc ?_ (by simp) _))) HQN.out).mono ?_; rintro e w5 ⟨v5, rfl, hown5, h5⟩; have HW5 : Hid (Below wr.heap.size wr w5) := Below.trans (by repeat (first | exact Below.refl _ _ | (with_reducible refine Below.drew ?_) | refine Below.alloc ?_ (by simp) _)) (h5.mono (by simp)); have HO5 : Hid (w5.ownsRow wr.heap.size 3 1 v5 (a :: new).length ((cI (a :: new)).map iv)) := Lib.hid (by have := own_lower hown5 (show wr.heap.size ≤ _ by simp); rw [cI_len] at this; exact this); obtain ⟨A5, cp5, e5⟩ := own_slice HO5.out; rw [HQ2.out] at e5; subst e5; have qA := cell_below HW5.out cA; have ZA5 : B0 + 1 < w5.heap.size := World.block_lt_of_cell? w5 _ qA; have HZ5 : Hid (wr.heap.size ≤ w5.heap.size) := HW5.out.size; clear hown5 h5)
                | (refine step_append_lies _ rfl (.tmp 89) (.tmp 94) 43 rfl (h + 6) 25 j0 _ 1 24 Try.underlying43 HJ.out HY0.out HY1.out HY2.out rfl (by decide) _ t.al.length hs2 (by simp [Act.eval]) (own_below (own_below HAO.out HW5.out) (by repeat (first | exact Below.refl _ _ | (with_reducible refine Below.drew ?_) | refine Below.setCell ?_ (by simp) _ | refine Below.alloc ?_ (by first | omega | (simp; done) | (simp; omega)) _))) ⟨w5.heap.size, 0, none⟩ 1 1 [.slice A5 j cp5] (by simp [Act.eval]) rfl (by intro j u hj; rw [add_at]; (match j, hj with | 0, hj => (injection hj with hj; subst hj; simp) | j + 1, hj => cases hj)) (by intro u hu; simp at hu; subst hu; rfl) (by decide) HLN2.out.1 HLN2.out.2 (by have := HSZ.out; have := HZ5.out; first | omega | (simp; omega)) _ rfl ?_; intro g2 cap2 w6 hrow hgrow hat hg6; obtain ⟨XA, FA, ZA, XO, FO, ZO, XN, ZN, M1, M2, M3, M4, MORE⟩ := HRA.out.mid2 HW5.out HO5.out (by repeat (first | exact Below.refl _ _ | (with_reducible refine Below.drew ?_) | refine Below.setCell ?_ (by simp) _ | refine Below.alloc ?_ (by first | omega | (simp; done) | (simp; omega)) _)) rfl hrow hgrow hat; clear hrow hgrow hat))
              all_goals
                clear cA cN c4 f4 fA
                go_wp2
                go_ret
                refine ⟨⟨t.ks, s.st, t.al ++ [a :: new]⟩, n, a :: kn, [], an ++ [a :: new], rfl, HL.out.closes (Nat.le_refl _) HLL.out, .slice (some ⟨go, 0, none⟩) p co, .slice (some ⟨g2, 0, none⟩) (t.al.length + 1) cap2, hs2 ++ [.slice A5 j cp5], pl3, ?_, placed_more HP3.out (by have := HC3.out; rw [← HQ2.out, List.take_length] at this; exact this)⟩
                repeat (first | exact MORE.out _ (by repeat (first | exact Below.refl _ _ | (with_reducible refine Below.drew ?_))) | (with_reducible refine Rep.drewn ?_) | refine Rep.close (q := j) ?_ HST.out HPP.out HQ2.out)
end Go.Proofs.Ytkmbjpgpkgeiaaa

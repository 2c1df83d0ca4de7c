/- Plain numbers: what a sum or a product that is brought into 64 bits is, put together. And the row's last step: a law that answers true, and turns nothing that was there, meets its row. -/
import Derived.WalkKit
import Derived.ProofKit
import Derived.OpenShut
import Derived.Below
import Derived.Carry
namespace Go.Proofs.Ytjnhbchpledmdaa
open Go.ChangeShapes Go.WideShapes Go.ChangeAt Go.RowKit

theorem wrap_ex (x : Int) : ∃ k : Int, wrap64 x = x + k * 18446744073709551616 := by
  refine ⟨-((x + 9223372036854775808) / 18446744073709551616), ?_⟩
  unfold wrap64
  omega

theorem wrap_add (x k : Int) : wrap64 (x + k * 18446744073709551616) = wrap64 x := by
  unfold wrap64
  omega

theorem wrap_of_wf {a : Int} (h : (Lit.int .i64 a).wf = true) : -9223372036854775808 ≤ a ∧ a ≤ 9223372036854775807 := by
  have e1 : IntKind.i64.min = -9223372036854775808 := by decide
  have e2 : IntKind.i64.max = 9223372036854775807 := by decide
  simp only [Lit.wf, Bool.and_eq_true, decide_eq_true_eq, e1, e2] at h
  exact h

theorem ring_assoc (a b c : Int) : wrap64 (a + wrap64 (b + c)) = wrap64 (wrap64 (a + b) + c) := by
  obtain ⟨k, hk⟩ := wrap_ex (b + c)
  obtain ⟨l, hl⟩ := wrap_ex (a + b)
  rw [hk, hl, ← Int.add_assoc, wrap_add, show a + b + l * 18446744073709551616 + c = (a + b + c) + l * 18446744073709551616 by omega, wrap_add, Int.add_assoc]

theorem ring_mul (a b c : Int) : wrap64 (a * wrap64 (b * c)) = wrap64 (wrap64 (a * b) * c) := by
  obtain ⟨k, hk⟩ := wrap_ex (b * c)
  obtain ⟨l, hl⟩ := wrap_ex (a * b)
  rw [hk, hl, Int.mul_add, ← Int.mul_assoc a k, wrap_add, Int.add_mul, Int.mul_assoc l, Int.mul_comm 18446744073709551616 c, ← Int.mul_assoc l, wrap_add, Int.mul_assoc]

theorem ring_part (a b c : Int) : wrap64 (wrap64 (a * b) + wrap64 (a * c)) = wrap64 (a * wrap64 (b + c)) := by
  obtain ⟨k, hk⟩ := wrap_ex (b + c)
  obtain ⟨l, hl⟩ := wrap_ex (a * b)
  obtain ⟨m, hm⟩ := wrap_ex (a * c)
  rw [hk, hl, hm, Int.mul_add, ← Int.mul_assoc a k, wrap_add, Int.mul_add, show a * b + l * 18446744073709551616 + (a * c + m * 18446744073709551616) = a * b + a * c + (l + m) * 18446744073709551616 by omega, wrap_add]

theorem ring_back (a b : Int) (h : (Lit.int .i64 a).wf = true) : wrap64 (wrap64 (a + b) - b) = a := by
  obtain ⟨k, hk⟩ := wrap_ex (a + b)
  have := wrap_of_wf h
  rw [hk, show a + b + k * 18446744073709551616 - b = a + k * 18446744073709551616 by omega, wrap_add]
  unfold wrap64
  omega

theorem ring_zero (a : Int) (h : (Lit.int .i64 a).wf = true) : wrap64 (a + 0) = a := by
  have := wrap_of_wf h
  unfold wrap64
  omega

theorem ring_one (a : Int) (h : (Lit.int .i64 a).wf = true) : wrap64 (a * 1) = a := by
  have := wrap_of_wf h
  unfold wrap64
  omega

theorem ring_none (a : Int) : wrap64 (a * 0) = 0 := by
  unfold wrap64
  omega

section
variable {H : Type} {enc : TypeId × Value → H} {P : Program}

theorem stays {W W' : World} (hl : laidOutB P = true) (hb : Below W.heap.size W W') : ∀ {ts : List TypeId} {vs : List Value} {ds : List (DataW H)} {p : List MemPlace},
    (∀ t ∈ ts, P.readableRec t = true ∧ t < P.types.size) → (∀ x ∈ p, x.block < W.heap.size) → DataW.TrodAll enc P W 0 (fun _ => true) true ts vs ds p →
    DataW.TrodAll enc P W' 0 (fun b => decide (b < W.heap.size)) true ts vs ds p
  | [], _, _, _, _, _, h => by
    obtain ⟨rfl, rfl, rfl⟩ := trodAll_nil h
    exact trodAll_mk0
  | t :: ts, _, _, _, ht, hp, h => by
    obtain ⟨v, vs1, d, ds1, a, b, rfl, rfl, rfl, h1, h2⟩ := trodAll_cons h
    obtain ⟨hr, hs⟩ := ht t (by simp)
    exact trodAll_cons_mk (Below.trod hl hr hs h1 hb fun x hx => hp x (by simp [hx])) (stays hl hb (fun u hu => ht u (by simp [hu])) (fun x hx => hp x (by simp [hx])) h2)

theorem law_post {f : Func} {s : ChangeSpec} {W W' : World} {args : Array Value} {ds gs : List (DataW H)} {before : List MemPlace} {tb : TypeId}
    (hl : laidOutB P = true) (hts : ∀ t ∈ f.params.toList, P.readableRec t = true ∧ t < P.types.size) (hvars : s.vars = []) (hr : f.resultTypes = #[tb]) (htb : P.underlying tb = some .bool)
    (hfn : s.fn H ds = { results := [.lit (.bool true)], args := ds })
    (hW : DataW.Whole enc P f.params.toList s.vars false W args.toList ds gs before) (hb : Below W.heap.size W W') :
    s.post enc P f false true false false W args (.bool true) W' := by
  have hW' := hW
  obtain ⟨p, q, hA, hV, rfl, hfz, hnd⟩ := hW
  have hlt : ∀ x ∈ p, x.block < W.heap.size := fun x hx => hW'.lt x (by simp [hx])
  obtain ⟨rfl, rfl⟩ : gs = [] ∧ q = [] := by rw [hvars] at hV; exact trodVars_none hV
  refine ⟨ds, [], _, [], p, [], hW', ?_, ?_, ?_, hb.frame _, fun h => by cases h⟩
  · rw [List.append_nil, hfn, hr]
    exact trodAll_cons_mk (shut_bool htb true) trodAll_mk0
  · rw [List.append_nil, hfn]
    exact stays hl hb hts hlt hA
  · rw [hvars, List.append_nil, hfn]
    rfl
end

end Go.Proofs.Ytjnhbchpledmdaa

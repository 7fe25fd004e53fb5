/- LibNames: both give the thirteen names. Printed by gen_lib.py. -/
import Derived.Test.YtakpmnagdpiceaaGrow
namespace Go.Proofs.Ytakpmnagdpiceaa
open Go.RowKit
set_option linter.unusedVariables false
set_option linter.unusedSimpArgs false
attribute [local go_sem] Ext.cell

def libNames : List ByteArray := [⟨#[105, 100]⟩, ⟨#[98, 111, 116, 104]⟩, ⟨#[110, 111, 116]⟩, ⟨#[97, 98, 115]⟩, ⟨#[108, 101, 110]⟩, ⟨#[97, 112, 112]⟩, ⟨#[114, 101, 118]⟩, ⟨#[109, 97, 112]⟩, ⟨#[102, 111, 108, 100]⟩, ⟨#[115, 117, 109]⟩, ⟨#[101, 97, 99, 104]⟩, ⟨#[117, 112, 116, 111]⟩, ⟨#[115, 104, 111, 119, 115]⟩]
theorem libNames_ok : ∀ x ∈ libNames, StrOk x := by
  intro x hx
  simp only [libNames, List.mem_cons, List.not_mem_nil, or_false] at hx
  rcases hx with rfl | rfl | rfl | rfl | rfl | rfl | rfl | rfl | rfl | rfl | rfl | rfl | rfl <;> (show (Array.size _) ≤ _; decide)

theorem info_StringS : (Try.prog.info? 9).map (fun i => (i.zero, i.size, i.bytes)) = some (some (.string ⟨#[]⟩), 1, 16) := by kernel_rfl

set_option maxHeartbeats 1000000 in
theorem impl_LibNames_c (w : World) :
    Calls Try.prog 10 #[] w fun e w' => ∃ v, e = .returned v ∧ w'.ownsRow w.heap.size 9 1 v 13 (libNames.map Value.string) ∧ Below w.heap.size w w' := by
  go_enter Try.func10, Try.ntmps10
  go_wp2
  go_returns
  exact ⟨_, rfl, own_new w _ _ 1 13 rfl (by decide) _ (Nat.le_refl _), by go_grown⟩

def DefRow (w : World) (b i : Nat) (x : ByteArray) : Prop := ∃ s0 s1 a n c d, RowAt w b (i * 5) [.string x, .string s0, .string s1, .slice a n c, .bool d]
theorem rowAt_part {w : World} {b : Nat} {xs r : List Value} (h : RowAt w b 0 xs) (i : Nat) (hr : (xs.drop i).take 5 = r) : RowAt w b i r := fun j c hc => by
  rw [← hr, List.getElem?_take] at hc
  split at hc
  · rw [List.getElem?_drop] at hc
    have := h (i + j) c hc
    simpa using this
  · cases hc

theorem defs_of (w4 : World) (cs : Array Value) (e : TypeId) (hsz : cs.size = 13 * 5) (hrow : ∀ i x, libNames[i]? = some x → ∃ s0 s1 a n c d, (cs.toList.drop (i * 5)).take 5 = [.string x, .string s0, .string s1, .slice a n c, .bool d]) : ∀ i x, libNames[i]? = some x → DefRow (w4.alloc (.cells cs e)) w4.heap.size i x := fun i x hx => by
  obtain ⟨g, cap, hv, h1, h2, h3, h4, h5, h6⟩ := own_cells (own_new w4 cs e 5 13 hsz (by decide) 0 (Nat.zero_le _)) (by decide)
  obtain rfl : w4.heap.size = g := by injection hv with a; injection a with a; injection a
  obtain ⟨s0, s1, a, n, c, d, hr⟩ := hrow i x hx
  exact ⟨s0, s1, a, n, c, d, rowAt_part h5 (i * 5) hr⟩

set_option maxRecDepth 100000 in
set_option maxHeartbeats 1000000 in
theorem l22Defs_c (w : World) :
    Calls Try.prog 35 #[] w fun e w' => ∃ b, e = .returned (.slice (some ⟨b, 0, none⟩) 13 13) ∧ w.heap.size ≤ b ∧ b < w'.heap.size ∧ (∀ i x, libNames[i]? = some x → DefRow w' b i x) ∧ Below w.heap.size w w' := by
  go_enter Try.func35, Try.ntmps35
  go_wp2
  go_returns
  generalize hw : (((w.alloc _).alloc _).alloc _).alloc _ = w4
  have hb4 : Below w.heap.size w w4 := by rw [← hw]; go_grown
  have hz4 := hb4.size
  refine ⟨w4.heap.size, ?_, hz4, by simp, defs_of w4 _ _ rfl (fun i x hx => ?_), hb4.trans (by go_grown)⟩
  · rw [← hw]; simp only [World.size_alloc]; rfl
  · have hi : i < 13 := (List.getElem?_eq_some_iff.1 hx).1
    match i, hi, hx with
    | 0, _, hx => obtain rfl := Option.some.inj hx; exact ⟨_, _, _, _, _, _, rfl⟩
    | 1, _, hx => obtain rfl := Option.some.inj hx; exact ⟨_, _, _, _, _, _, rfl⟩
    | 2, _, hx => obtain rfl := Option.some.inj hx; exact ⟨_, _, _, _, _, _, rfl⟩
    | 3, _, hx => obtain rfl := Option.some.inj hx; exact ⟨_, _, _, _, _, _, rfl⟩
    | 4, _, hx => obtain rfl := Option.some.inj hx; exact ⟨_, _, _, _, _, _, rfl⟩
    | 5, _, hx => obtain rfl := Option.some.inj hx; exact ⟨_, _, _, _, _, _, rfl⟩
    | 6, _, hx => obtain rfl := Option.some.inj hx; exact ⟨_, _, _, _, _, _, rfl⟩
    | 7, _, hx => obtain rfl := Option.some.inj hx; exact ⟨_, _, _, _, _, _, rfl⟩
    | 8, _, hx => obtain rfl := Option.some.inj hx; exact ⟨_, _, _, _, _, _, rfl⟩
    | 9, _, hx => obtain rfl := Option.some.inj hx; exact ⟨_, _, _, _, _, _, rfl⟩
    | 10, _, hx => obtain rfl := Option.some.inj hx; exact ⟨_, _, _, _, _, _, rfl⟩
    | 11, _, hx => obtain rfl := Option.some.inj hx; exact ⟨_, _, _, _, _, _, rfl⟩
    | 12, _, hx => obtain rfl := Option.some.inj hx; exact ⟨_, _, _, _, _, _, rfl⟩

end Go.Proofs.Ytakpmnagdpiceaa


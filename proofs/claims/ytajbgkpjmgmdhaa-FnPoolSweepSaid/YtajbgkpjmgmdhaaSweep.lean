/- What PoolSweep answers, in plain Lean; l20Roots. -/
import Derived.Test.YtajbgkpjmgmdhaaCopied
import Derived.Test.YtajbgkpjmgmdhaaMarks
import Derived.Test.YtajbgkpjmgmdhaaPoolMake3
namespace Go.Proofs.Ytajbgkpjmgmdhaa
open Go.RowKit
set_option linter.unusedVariables false
set_option linter.unusedSimpArgs false
attribute [local go_sem] Ext.cell

theorem heapIn_of {p : GPool} {roots : List GVal} (h : poolOk p = true) (hr : roots.all (poolHolds p) = true) : HeapIn p.cells roots := by
  have h' : PoolOk p := by unfold poolOk at h; simpa using h
  have hz : ∀ v : GVal, zeroVal v = true → IsCell p.cells.length v := fun v hv h6 => by
    unfold zeroVal at hv; simp [h6] at hv
  have hh : ∀ v : GVal, poolHolds p v = true → IsCell p.cells.length v := fun v hv h6 => by
    unfold poolHolds at hv
    rw [Bool.and_eq_true] at hv
    exact valOk_cell hv.1 h6
  refine ⟨fun v hv => hh v (List.all_eq_true.1 hr v hv), fun c hc => ?_⟩
  obtain ⟨i, hi, rfl⟩ := List.getElem_of_mem hc
  rcases h'.2.2.2 i _ hi (List.getElem?_eq_getElem hi) with h1 | h1
  · obtain ⟨k, hk, e⟩ := List.getElem_of_mem h1
    obtain ⟨j, e1, h2, _, c, h3, h4⟩ := h'.2.2.1 k _ hk (List.getElem?_eq_getElem hk)
    obtain rfl : i = j := by omega
    rw [List.getElem?_eq_getElem hi] at h3
    obtain rfl := Option.some.inj h3
    unfold zeroCell at h4
    simp only [Bool.and_eq_true] at h4
    exact ⟨hz _ h4.1.2, hz _ h4.2⟩
  · unfold poolFits at h1
    simp only [Bool.and_eq_true, Bool.or_eq_true] at h1
    refine ⟨hh _ h1.1.2, ?_⟩
    rcases h1.2 with h2 | h2
    · exact hz _ h2
    · exact hh _ h2

def zeroC : GCell := ⟨0, 0, ⟨#[]⟩, ⟨0, 0, ⟨#[]⟩⟩, ⟨0, 0, ⟨#[]⟩⟩⟩
/-- The pool and how many have gone, behind k of its cells; lv tells which are alive. -/
def swp (p : GPool) (lv : List Bool) : Nat → GPool × Nat
  | 0 => (p, 0)
  | k + 1 => if lv[k]? = some false ∧ p.free.contains (k : Int) = false then (⟨(swp p lv k).1.cells.set k zeroC, (swp p lv k).1.free ++ [(k : Int)]⟩, (swp p lv k).2 + 1) else swp p lv k
theorem swp_len (p : GPool) (lv : List Bool) (k : Nat) : (swp p lv k).1.cells.length = p.cells.length ∧ (swp p lv k).1.free.length ≤ p.free.length + k ∧ (swp p lv k).2 ≤ k := by
  induction k with
  | zero => simp [swp]
  | succ k ih =>
    unfold swp
    split
    · simp only [List.length_set, List.length_append, List.length_singleton]; omega
    · omega
theorem swp_yes {p : GPool} {lv : List Bool} {k : Nat} (h : lv[k]? = some false) (hf : p.free.contains (k : Int) = false) : swp p lv (k + 1) = (⟨(swp p lv k).1.cells.set k zeroC, (swp p lv k).1.free ++ [(k : Int)]⟩, (swp p lv k).2 + 1) := by
  conv => lhs; unfold swp
  rw [if_pos ⟨h, hf⟩]
theorem swp_no {p : GPool} {lv : List Bool} {k : Nat} (h : ¬ (lv[k]? = some false ∧ p.free.contains (k : Int) = false)) : swp p lv (k + 1) = swp p lv k := by
  conv => lhs; unfold swp
  rw [if_neg h]
def psLive (p : GPool) (roots : List GVal) : List Bool := (copiedP p.cells roots).2.map fun x => decide (0 ≤ x)
def psOk (p : GPool) (roots : List GVal) : Prop := poolOk p = true ∧ roots.all (poolHolds p) = true
open Classical in
noncomputable def psPool (p : GPool) (roots : List GVal) : GPool := if psOk p roots then (swp p (psLive p roots) p.cells.length).1 else GPool.zero
open Classical in
noncomputable def psN (p : GPool) (roots : List GVal) : Int := if psOk p roots then ((swp p (psLive p roots) p.cells.length).2 : Int) else -1
def PsPost (w : World) (p : GPool) (roots : List GVal) (e : Ending) (w' : World) : Prop :=
  ∃ v0 v1, e = .returned (.tuple #[.agg #[v0, v1], .int .i64 (psN p roots)]) ∧ OwnPool w.heap.size w' v0 v1 (psPool p roots) ∧ Below w.heap.size w w'
theorem ps_no {w w' : World} {p : GPool} {roots : List GVal} (h : ¬ psOk p roots) (hb : Below w.heap.size w w') : PsPost w p roots (.returned (.tuple #[.agg #[.slice none 0 0, .slice none 0 0], .int .i64 (-1)])) w' :=
  ⟨_, _, by unfold psN; rw [if_neg h], by unfold psPool; rw [if_neg h]; exact OwnPool.nil _ _, hb⟩
theorem ps_yes {w w' : World} {p : GPool} {roots : List GVal} {k : Nat} {v0 v1 : Value} (h : psOk p roots) (hk : k = p.cells.length) (hO : OwnPool w.heap.size w' v0 v1 (swp p (psLive p roots) k).1) (hb : Below w.heap.size w w') :
    PsPost w p roots (.returned (.tuple #[.agg #[v0, v1], .int .i64 ((swp p (psLive p roots) k).2 : Int)])) w' := by
  subst hk
  exact ⟨_, _, by unfold psN; rw [if_pos h], by unfold psPool; rw [if_pos h]; exact hO, hb⟩
/-- The marks are the alive ones. -/
theorem live_eq {p : GPool} {roots : List GVal} (H : HeapIn p.cells roots) (L : BLoop p.cells roots (copiedP p.cells roots).1.length (copiedP p.cells roots)) {m : List Bool} (hm : m.length = p.cells.length)
    (h : ∀ (i : Nat) x, m[i]? = some x → (x = true ↔ Rch p.cells roots i)) : m = psLive p roots := by
  apply List.ext_getElem?
  intro i
  unfold psLive
  rw [List.getElem?_map]
  by_cases hi : i < m.length
  · have hx := List.getElem?_eq_getElem hi
    have hi2 : i < (copiedP p.cells roots).2.length := by rw [L.inv.len]; omega
    have hy := List.getElem?_eq_getElem hi2
    rw [hx, hy, Option.map_some]
    congr 1
    have a := h i _ hx
    have b := L.live H rfl hy
    rw [← b] at a
    cases e : m[i]
    · rw [e] at a; simp at a; symm; simpa using a
    · rw [e] at a; simp at a; symm; simpa using a
  · rw [List.getElem?_eq_none (by omega), List.getElem?_eq_none (by rw [L.inv.len]; omega)]; rfl

set_option maxRecDepth 100000 in
set_option maxHeartbeats 4000000 in
theorem l20Roots_c (p : GPool) (roots : List GVal) (r : List Value) (u : Value) (lo lo1 : Nat) (hbulk : p.bulk ≤ 1048576) (hlen : p.cells.length ≤ 1048576) (hr : roots.length ≤ 1048576) (w : World) (hp : GPool.R lo w r p) (hu : Sl GVal.R 3 lo1 w u roots) :
    Calls Try.prog 59 #[.agg r.toArray, u] w fun e w' => e = .returned (.bool (roots.all (poolHolds p) && poolOk p)) ∧ Below w.heap.size w w' := by
  have Hp := hp
  obtain ⟨u0, u1, rfl, -, a0, a1⟩ := hp
  obtain ⟨pa, pc, rfl⟩ := a0.form
  obtain ⟨qa, qc, rfl⟩ := a1.form
  clear a0 a1
  obtain ⟨a1, c1, rfl, l1, m1, h1⟩ := hu
  obtain ⟨n, hn⟩ : ∃ n, n = roots.length := ⟨_, rfl⟩
  rw [← hn] at l1 hr ⊢
  have c2 := fun W (hW : Below w.heap.size w W) => spec_PoolOk_c p _ lo hbulk W (GPool.good.below Hp hW)
  replace hn := Lib.hid hn; replace h1 := Lib.hid h1; replace c2 := Lib.hid c2
  go_enter Try.func59, Try.ntmps59
  go_upto_region 1 with fail
  have B : RowAt (w.alloc (.cells #[.slice pa p.cells.length pc, .slice qa p.free.length qc] 26)) (w.heap.size) 0 [.slice pa p.cells.length pc, .slice qa p.free.length qc] := RowAt.box w #[.slice pa p.cells.length pc, .slice qa p.free.length qc] 26
  have hw : Below w.heap.size w (w.alloc (.cells #[.slice pa p.cells.length pc, .slice qa p.free.length qc] 26)) := by go_grown
  generalize (w.alloc (.cells #[.slice pa p.cells.length pc, .slice qa p.free.length qc] 26)) = w0 at *
  have hs := hw.size
  go_wp2_with fail
  go_loopw [9] (fun i wr => ∃ k : Nat, k ≤ n ∧ i = .int .i64 k ∧ Below w.heap.size w wr ∧ RowAt wr w.heap.size 0 [.slice pa p.cells.length pc, .slice qa p.free.length qc] ∧ ∀ v ∈ roots.take k, poolHolds p v = true) (fun i _ => n - (intOf i).toNat)
  case atStart => exact ⟨0, by omega, rfl, hw, B, fun v hv => by simp at hv⟩
  case round =>
    clear hw B
    obtain ⟨k, hk, rfl, hw, B, hA⟩ := hrel
    have hsz := hw.size
    obtain ⟨b_0, b_1⟩ := B.box2
    have hsB := World.block_lt_of_cell? _ _ b_0; dsimp only at hsB
    by_cases hlt : k < n
    · obtain ⟨b1, o1, v, s1, _, rfl, P1, ⟨rfl, hwf⟩, r1⟩ := (h1.out.below GVal.good hw).get hn hlt
      obtain ⟨R0, R1, R2⟩ := r1.cells3
      have c3 := fun W (hW : Below wr.heap.size wr W) => l20Val_c p _ lo v hwf.2.1 hlen W (GPool.good.below Hp (hw.trans (hW.mono hsz)))
      have hmem := List.mem_of_getElem? P1.out
      have hst := take_snoc' P1.out
      replace c3 := Lib.hid c3
      clear r1 hwf
      cases hh : poolHolds p v with
      | false =>
        rw [hh] at c3
        have hall : (roots.all (poolHolds p) && poolOk p) = false := by
          have : roots.all (poolHolds p) = false := List.all_eq_false.2 ⟨v, hmem, by rw [hh]; simp⟩
          rw [this]; rfl
        replace hh := Lib.hid hh; replace hA := Lib.hid hA; replace hall := Lib.hid hall
        go_wp2_with (go_at_call 76; (with_reducible refine (c3.out _ (by go_grown)).mono ?_); rintro e w1 ⟨rfl, hb⟩; have hbr : Below wr.heap.size wr w1 := Below.trans (by go_grown) (hb.mono (by simp)); have hw1 := hw.trans (hbr.mono hsz))
        go_returns
        exact ⟨by rw [hall.out]; rfl, hw1⟩
      | true =>
        rw [hh] at c3
        replace hA : Hid (∀ v ∈ roots.take (k + 1), poolHolds p v = true) := by
          show ∀ v ∈ roots.take (k + 1), poolHolds p v = true
          rw [hst]
          intro y hy
          rcases List.mem_append.1 hy with h | h
          · exact hA y h
          · simp at h; subst h; exact hh
        replace hh := Lib.hid hh
        go_wp2_with (go_at_call 76; (with_reducible refine (c3.out _ (by go_grown)).mono ?_); rintro e w1 ⟨rfl, hb⟩; have hbr : Below wr.heap.size wr w1 := Below.trans (by go_grown) (hb.mono (by simp)); have hw1 := hw.trans (hbr.mono hsz); have B1 := B.below hbr)
        go_roundw
        case rel => exact ⟨k + 1, by omega, by go_num, hw1, B1, hA.out⟩
        case measure => simp [intOf]; omega
    · obtain rfl : n = k := by omega
      have hall : roots.all (poolHolds p) = true := List.all_eq_true.2 (by rw [take_full hn] at hA; exact hA)
      have hall2 : (roots.all (poolHolds p) && poolOk p) = poolOk p := by rw [hall, Bool.true_and]
      replace hall2 := Lib.hid hall2
      replace hA := Lib.hid hA; replace hall := Lib.hid hall
      go_wp2_with (go_at_call 42; (with_reducible refine (c2.out _ hw).mono ?_); rintro e w1 ⟨rfl, hb⟩; have hw1 := hw.trans (hb.mono hsz))
      go_returns
      exact ⟨by rw [hall2.out]; rfl, hw1⟩

end Go.Proofs.Ytajbgkpjmgmdhaa

/- Draws of values and heaps. -/
import Derived.Test.YtajbgkpjmgmdhaaDraw
import Derived.Test.YtajbgkpjmgmdhaaPack2
namespace Go.Proofs.Ytajbgkpjmgmdhaa
open Go.RowKit
set_option linter.unusedVariables false
set_option linter.unusedSimpArgs false
attribute [local go_sem] Ext.cell

theorem Cur.below' {W0 w w' : World} {b : Nat} (h : Cur W0 w b) (hb : Below w.heap.size w w') : Cur W0 w' b :=
  h.kept (Kept.below hb (S := fun _ => False)) (fun h => h) (h.below.trans (hb.mono h.below.size))
theorem DF.below {W0 a c d : World} {b : Nat} (h : DF W0 b a c) (hb : Below c.heap.size c d) : DF W0 b a d :=
  ⟨h.cur.below' hb, h.kept.trans h.size (Kept.below hb), Nat.le_trans h.size hb.size⟩
theorem DF.alloc {W0 a c : World} {b : Nat} (h : DF W0 b a c) (o : Obj) : DF W0 b a (c.alloc o) := h.below (Below.alloc (Below.refl _ _) (Nat.le_refl _) _)
theorem DF.drew {W0 a c : World} {b : Nat} (h : DF W0 b a c) : DF W0 b a c.drew := h.below (Below.refl _ c).drew
theorem DF.kept' {W0 a c d : World} {b : Nat} {S : Nat → Prop} (h : DF W0 b a c) (hk : Kept S c d) (hS : ∀ q, S q → a.heap.size ≤ q) (hb : b < a.heap.size) (hB : Below W0.heap.size W0 d) (hz : c.heap.size ≤ d.heap.size) : DF W0 b a d :=
  ⟨h.cur.kept hk (fun e => by have := hS b e; omega) hB, fun k h1 h2 => (hk k (Nat.lt_of_lt_of_le h1 h.size) (fun e => by have := hS k e; omega)).trans (h.kept k h1 h2), Nat.le_trans h.size hz⟩
theorem DF.set3 {W0 a c : World} {b q : Nat} (h : DF W0 b a c) (hq : a.heap.size ≤ q) (hb : b < a.heap.size) (x y z : Value) : DF W0 b a (((c.setCell ⟨q, 0, none⟩ x).setCell ⟨q, 1, none⟩ y).setCell ⟨q, 2, none⟩ z) :=
  h.kept' (S := (· = q)) (Kept.set (S := (· = q)) (p := ⟨q, 2, none⟩) (Kept.set (S := (· = q)) (p := ⟨q, 1, none⟩) (Kept.set (S := (· = q)) (p := ⟨q, 0, none⟩) (Kept.refl _ _) rfl _) rfl _) rfl _) (fun k e => by omega) hb (below_set3 h.cur.below (by have := h.cur.lo; omega) _ _ _) (by simp [World.setCell])

/-- A drawn value: right, with a short text. -/
def SmallV (v : GVal) : Prop := v.wf ∧ v.s.size ≤ 5
theorem seqv_wf (k n : Int) (s : ByteArray) (hk : 0 ≤ k ∧ k ≤ 7) (hn : I64 n) (hs : s.size ≤ 5) : SmallV ⟨k, n, s⟩ := ⟨⟨⟨by dsimp only; omega, by dsimp only; omega⟩, hn, by unfold StrOk; dsimp only; omega⟩, hs⟩
theorem six_vals {W : World} {g k : Nat} {y : Int} (hy : I64 y) (h : RowAt W g 0 [.int .i64 1, .int .i64 y, .string ⟨#[]⟩, .int .i64 2, .int .i64 0, .string ⟨#[97, 98]⟩, .int .i64 3, .int .i64 0, .string ⟨#[]⟩, .int .i64 4, .int .i64 0, .string ⟨#[76, 101, 97, 102]⟩, .int .i64 5, .int .i64 0, .string ⟨#[112, 114, 105, 110, 116]⟩, .int .i64 7, .int .i64 0, .string ⟨#[]⟩]) (hk : k < 6) : ∃ v : GVal, SmallV v ∧ W.cell? ⟨g, k * 3, none⟩ = some (.int .i64 v.kind) ∧ W.cell? ⟨g, k * 3 + 1, none⟩ = some (.int .i64 v.n) ∧ W.cell? ⟨g, k * 3 + 2, none⟩ = some (.string v.s) := by
  have hh : ∀ j c, ([.int .i64 1, .int .i64 y, .string ⟨#[]⟩, .int .i64 2, .int .i64 0, .string ⟨#[97, 98]⟩, .int .i64 3, .int .i64 0, .string ⟨#[]⟩, .int .i64 4, .int .i64 0, .string ⟨#[76, 101, 97, 102]⟩, .int .i64 5, .int .i64 0, .string ⟨#[112, 114, 105, 110, 116]⟩, .int .i64 7, .int .i64 0, .string ⟨#[]⟩] : List Value)[j]? = some c → W.cell? ⟨g, j, none⟩ = some c := fun j c hc => by have := h j c hc; rwa [Nat.zero_add] at this
  have z64 : I64 0 := by constructor <;> omega
  match k, hk with
  | 0, _ => exact ⟨⟨1, y, ⟨#[]⟩⟩, seqv_wf _ _ _ (by omega) hy (by decide), hh 0 _ rfl, hh 1 _ rfl, hh 2 _ rfl⟩
  | 1, _ => exact ⟨⟨2, 0, ⟨#[97, 98]⟩⟩, seqv_wf _ _ _ (by omega) z64 (by decide), hh 3 _ rfl, hh 4 _ rfl, hh 5 _ rfl⟩
  | 2, _ => exact ⟨⟨3, 0, ⟨#[]⟩⟩, seqv_wf _ _ _ (by omega) z64 (by decide), hh 6 _ rfl, hh 7 _ rfl, hh 8 _ rfl⟩
  | 3, _ => exact ⟨⟨4, 0, ⟨#[76, 101, 97, 102]⟩⟩, seqv_wf _ _ _ (by omega) z64 (by decide), hh 9 _ rfl, hh 10 _ rfl, hh 11 _ rfl⟩
  | 4, _ => exact ⟨⟨5, 0, ⟨#[112, 114, 105, 110, 116]⟩⟩, seqv_wf _ _ _ (by omega) z64 (by decide), hh 12 _ rfl, hh 13 _ rfl, hh 14 _ rfl⟩
  | 5, _ => exact ⟨⟨7, 0, ⟨#[]⟩⟩, seqv_wf _ _ _ (by omega) z64 (by decide), hh 15 _ rfl, hh 16 _ rfl, hh 17 _ rfl⟩
set_option maxRecDepth 100000 in
set_option maxHeartbeats 8000000 in
theorem l11DrawVal_c (W0 w : World) (b : Nat) (n : Int) (hn : n ≤ 4096) (C : Cur W0 w b) :
    Calls Try.prog 70 #[.pointer (some ⟨b, 0, none⟩), .int .i64 n] w fun e w' => ∃ v : GVal, e = .returned (.agg #[.int .i64 v.kind, .int .i64 v.n, .string v.s]) ∧ SmallV v ∧ DF W0 b w w' := by
  have hbl := C.lt
  go_enter Try.func70, Try.ntmps70
  go_upto_region 1 with fail
  have E : RowAt (w.alloc (.cells #[.int .i64 0, .int .i64 0, .string ⟨#[]⟩] 28)) (w.heap.size) 0 [.int .i64 0, .int .i64 0, .string ⟨#[]⟩] := RowAt.box w #[.int .i64 0, .int .i64 0, .string ⟨#[]⟩] 28
  have EW : Wr (w.alloc (.cells #[.int .i64 0, .int .i64 0, .string ⟨#[]⟩] 28)) (w.heap.size) 0 3 := Wr.box w #[.int .i64 0, .int .i64 0, .string ⟨#[]⟩] 28
  have hw : Below w.heap.size w (w.alloc (.cells #[.int .i64 0, .int .i64 0, .string ⟨#[]⟩] 28)) := by go_grown
  generalize (w.alloc (.cells #[.int .i64 0, .int .i64 0, .string ⟨#[]⟩] 28)) = w0 at *
  have D0 : DF W0 b w w0 := (DF.refl C).below hw
  have hs0 := hw.size
  have hsE := World.block_lt_of_cell? _ _ E.box3.1; dsimp only at hsE
  replace C := Lib.hid C
  have ek : ∀ W, DF W0 b w0 W → RowAt W w.heap.size 0 [.int .i64 0, .int .i64 0, .string ⟨#[]⟩] ∧ Wr W w.heap.size 0 3 := fun W D => ⟨E.kept D.kept (by omega), EW.kept D.kept (by omega)⟩
  replace ek := Lib.hid ek
  go_upto_region 2 with (go_at_call 38; (with_reducible refine (l01Below_c W0 _ b 9 (by omega) D0.cur).mono ?_); rintro e w1 ⟨x, rfl, hx0, hx1, hx2, D1⟩)
  clear E EW
  have hs1 := D1.size
  by_cases hc : x < 4 ∧ 0 < n
  · have hd1 : decide (x < 4) = true := decide_eq_true hc.1
    have hd2 : decide (0 < n) = true := decide_eq_true hc.2
    go_upto_region 3 with fail
    go_wp2_with (go_at_call 38; (with_reducible refine (l01Below_c W0 _ b n (by omega) D1.cur).mono ?_); rintro e w2 ⟨y, rfl, hy0, hy1, hy2, D2⟩; obtain ⟨E2, EW2⟩ := ek.out _ (D1.trans D2); obtain ⟨e_0, e_1, e_2⟩ := E2.box3; have ef_0 := EW2.frz 0 (by omega); have ef_1 := EW2.frz 1 (by omega); have ef_2 := EW2.frz 2 (by omega))
    have q := stored3 (x := .int .i64 6) (y := .int .i64 y) (z := .string ⟨#[]⟩) e_0 e_1 e_2
    refine bodyPost_ret (v := .agg #[.int .i64 6, .int .i64 y, .string ⟨#[]⟩]) (by simp [results, Try.results70, go_sem, q.1, q.2.1, q.2.2]) rfl ?_
    exact ⟨⟨6, y, ⟨#[]⟩⟩, rfl, seqv_wf _ _ _ (by omega) (by have := hy1 hc.2; constructor <;> omega) (by decide), ((D0.trans D1).trans D2).set3 (Nat.le_refl _) hbl _ _ _⟩
  · have hcc : (x < 4 → ¬ 0 < n) := fun h1 h2 => hc ⟨h1, h2⟩
    by_cases hx4 : x < 4
    · have hd1 : decide (x < 4) = true := decide_eq_true hx4
      have hd2 : decide (0 < n) = false := decide_eq_false (hcc hx4)
      go_upto_region 3 with fail
      go_wp2_with (first
        | (go_at_call 38; (with_reducible refine (l01Below_c W0 _ b 9 (by omega) D1.cur).mono ?_); rintro e w2 ⟨y, rfl, hy0, hy1, hy2, D2⟩; have hs2 := D2.size)
        | (go_at_call 38; (with_reducible refine (l01Below_c W0 _ b 6 (by omega) (D2.alloc _).cur).mono ?_); rintro e w3 ⟨j, rfl, hj0, hj1, hj2, D3⟩; obtain ⟨k, rfl⟩ := Int.eq_ofNat_of_zero_le hj0; have hk : k < 6 := (by omega); have hy64 : I64 y := (by constructor <;> omega); have hrow := (RowAt.box w2 #[.int .i64 1, .int .i64 y, .string ⟨#[]⟩, .int .i64 2, .int .i64 0, .string ⟨#[97, 98]⟩, .int .i64 3, .int .i64 0, .string ⟨#[]⟩, .int .i64 4, .int .i64 0, .string ⟨#[76, 101, 97, 102]⟩, .int .i64 5, .int .i64 0, .string ⟨#[112, 114, 105, 110, 116]⟩, .int .i64 7, .int .i64 0, .string ⟨#[]⟩] 28).kept D3.kept (by omega); obtain ⟨v, hv, q0, q1, q2⟩ := six_vals hy64 hrow hk; have D4 := (D2.alloc _).trans D3; have hs4 := D4.size; clear hrow hj0 hj1 hj2; obtain ⟨E2, EW2⟩ := ek.out _ (D1.trans D4); obtain ⟨e_0, e_1, e_2⟩ := E2.box3; have ef_0 := EW2.frz 0 (by omega); have ef_1 := EW2.frz 1 (by omega); have ef_2 := EW2.frz 2 (by omega)))
      have q := stored3 (x := .int .i64 v.kind) (y := .int .i64 v.n) (z := .string v.s) e_0 e_1 e_2
      refine bodyPost_ret (v := .agg #[.int .i64 v.kind, .int .i64 v.n, .string v.s]) (by simp [results, Try.results70, go_sem, q.1, q.2.1, q.2.2]) rfl ?_
      exact ⟨v, rfl, hv, ((D0.trans D1).trans D4).set3 (Nat.le_refl _) hbl _ _ _⟩
    · have hd1 : decide (x < 4) = false := decide_eq_false hx4
      go_upto_region 3 with fail
      go_wp2_with (first
        | (go_at_call 38; (with_reducible refine (l01Below_c W0 _ b 9 (by omega) D1.cur).mono ?_); rintro e w2 ⟨y, rfl, hy0, hy1, hy2, D2⟩; have hs2 := D2.size)
        | (go_at_call 38; (with_reducible refine (l01Below_c W0 _ b 6 (by omega) (D2.alloc _).cur).mono ?_); rintro e w3 ⟨j, rfl, hj0, hj1, hj2, D3⟩; obtain ⟨k, rfl⟩ := Int.eq_ofNat_of_zero_le hj0; have hk : k < 6 := (by omega); have hy64 : I64 y := (by constructor <;> omega); have hrow := (RowAt.box w2 #[.int .i64 1, .int .i64 y, .string ⟨#[]⟩, .int .i64 2, .int .i64 0, .string ⟨#[97, 98]⟩, .int .i64 3, .int .i64 0, .string ⟨#[]⟩, .int .i64 4, .int .i64 0, .string ⟨#[76, 101, 97, 102]⟩, .int .i64 5, .int .i64 0, .string ⟨#[112, 114, 105, 110, 116]⟩, .int .i64 7, .int .i64 0, .string ⟨#[]⟩] 28).kept D3.kept (by omega); obtain ⟨v, hv, q0, q1, q2⟩ := six_vals hy64 hrow hk; have D4 := (D2.alloc _).trans D3; have hs4 := D4.size; clear hrow hj0 hj1 hj2; obtain ⟨E2, EW2⟩ := ek.out _ (D1.trans D4); obtain ⟨e_0, e_1, e_2⟩ := E2.box3; have ef_0 := EW2.frz 0 (by omega); have ef_1 := EW2.frz 1 (by omega); have ef_2 := EW2.frz 2 (by omega)))
      have q := stored3 (x := .int .i64 v.kind) (y := .int .i64 v.n) (z := .string v.s) e_0 e_1 e_2
      refine bodyPost_ret (v := .agg #[.int .i64 v.kind, .int .i64 v.n, .string v.s]) (by simp [results, Try.results70, go_sem, q.1, q.2.1, q.2.2]) rfl ?_
      exact ⟨v, rfl, hv, ((D0.trans D1).trans D4).set3 (Nat.le_refl _) hbl _ _ _⟩

end Go.Proofs.Ytajbgkpjmgmdhaa

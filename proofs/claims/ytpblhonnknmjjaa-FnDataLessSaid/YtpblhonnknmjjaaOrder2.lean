/- The program's inOrder. -/
import Derived.Test.YtpblhonnknmjjaaOrder
import Derived.Laws.EntriesVeiled
namespace Go.Proofs.Ytpblhonnknmjjaa
open Go.RowKit
set_option linter.unusedVariables false
set_option linter.unusedSimpArgs false
attribute [local go_sem] Ext.cell

set_option maxRecDepth 100000 in
set_option maxHeartbeats 4000000 in
theorem inOrder_c (n : Nat) (hn : n ≤ 1152921504606846976) (K : Nat → List Int) (g : Nat) (lb : Array Value) (lo : Nat) (w : World) (hk : KidsGive n K g lb lo w) (eg : ∀ args w, (callFunc g args).run Try.prog w = .ok (.enter g args) w) :
    Calls Try.prog 42 #[.int .i64 n, .func (.func g) #[] lb] w fun e w' => e = .returned (.bool (decide (endsK n K (n + 1) 0 = n))) ∧ Below w.heap.size w w' := by
  have hw0 := walk_c n hn K g lb lo w hk eg (w.heap.size + 1 + 1) w.heap.size (w.heap.size + 1) (w.heap.size + 1 + 1 + 1) (by omega) (by omega) (by omega) (n + 1) 0 0
  replace hw0 := Lib.hid hw0
  clear hk
  go_enter Try.func42, Try.ntmps42
  go_upto_region 4 with fail
  have hfz : ((((w.alloc (.cells #[.int .i64 n] 3)).alloc (.cells #[.func (.func g) #[] lb] 75)).alloc (.cells #[.int .i64 0] 3)).alloc (.cells #[.func (.func 69) #[] #[.pointer (some ⟨w.heap.size + 1 + 1, 0, none⟩), .pointer (some ⟨w.heap.size, 0, none⟩), .pointer (some ⟨w.heap.size + 1, 0, none⟩), .pointer (some ⟨w.heap.size + 1 + 1 + 1, 0, none⟩)]] 99)).frozen? ⟨w.heap.size + 1 + 1, 0, none⟩ = false := by go_simp
  have B1 : RowAt (w.alloc (.cells #[.int .i64 n] 3)) (w.heap.size) 0 [.int .i64 n] := RowAt.box w #[.int .i64 n] 3
  have B1 := B1.below (show Below (w.alloc (.cells #[.int .i64 n] 3)).heap.size (w.alloc (.cells #[.int .i64 n] 3)) ((w.alloc (.cells #[.int .i64 n] 3)).alloc (.cells #[.func (.func g) #[] lb] 75)) by go_grown)
  have B2 : RowAt ((w.alloc (.cells #[.int .i64 n] 3)).alloc (.cells #[.func (.func g) #[] lb] 75)) (w.heap.size + 1) 0 [.func (.func g) #[] lb] := by have h := RowAt.box (w.alloc (.cells #[.int .i64 n] 3)) #[.func (.func g) #[] lb] 75; simp only [World.size_alloc] at h; exact h
  have B1 := B1.below (show Below ((w.alloc (.cells #[.int .i64 n] 3)).alloc (.cells #[.func (.func g) #[] lb] 75)).heap.size ((w.alloc (.cells #[.int .i64 n] 3)).alloc (.cells #[.func (.func g) #[] lb] 75)) (((w.alloc (.cells #[.int .i64 n] 3)).alloc (.cells #[.func (.func g) #[] lb] 75)).alloc (.cells #[.int .i64 0] 3)) by go_grown)
  have B2 := B2.below (show Below ((w.alloc (.cells #[.int .i64 n] 3)).alloc (.cells #[.func (.func g) #[] lb] 75)).heap.size ((w.alloc (.cells #[.int .i64 n] 3)).alloc (.cells #[.func (.func g) #[] lb] 75)) (((w.alloc (.cells #[.int .i64 n] 3)).alloc (.cells #[.func (.func g) #[] lb] 75)).alloc (.cells #[.int .i64 0] 3)) by go_grown)
  have B3 : RowAt (((w.alloc (.cells #[.int .i64 n] 3)).alloc (.cells #[.func (.func g) #[] lb] 75)).alloc (.cells #[.int .i64 0] 3)) (w.heap.size + 1 + 1) 0 [.int .i64 0] := by have h := RowAt.box ((w.alloc (.cells #[.int .i64 n] 3)).alloc (.cells #[.func (.func g) #[] lb] 75)) #[.int .i64 0] 3; simp only [World.size_alloc] at h; exact h
  have B1 := B1.below (show Below (((w.alloc (.cells #[.int .i64 n] 3)).alloc (.cells #[.func (.func g) #[] lb] 75)).alloc (.cells #[.int .i64 0] 3)).heap.size (((w.alloc (.cells #[.int .i64 n] 3)).alloc (.cells #[.func (.func g) #[] lb] 75)).alloc (.cells #[.int .i64 0] 3)) ((((w.alloc (.cells #[.int .i64 n] 3)).alloc (.cells #[.func (.func g) #[] lb] 75)).alloc (.cells #[.int .i64 0] 3)).alloc (.cells #[.func (.func 69) #[] #[.pointer (some ⟨w.heap.size + 1 + 1, 0, none⟩), .pointer (some ⟨w.heap.size, 0, none⟩), .pointer (some ⟨w.heap.size + 1, 0, none⟩), .pointer (some ⟨w.heap.size + 1 + 1 + 1, 0, none⟩)]] 99)) by go_grown)
  have B2 := B2.below (show Below (((w.alloc (.cells #[.int .i64 n] 3)).alloc (.cells #[.func (.func g) #[] lb] 75)).alloc (.cells #[.int .i64 0] 3)).heap.size (((w.alloc (.cells #[.int .i64 n] 3)).alloc (.cells #[.func (.func g) #[] lb] 75)).alloc (.cells #[.int .i64 0] 3)) ((((w.alloc (.cells #[.int .i64 n] 3)).alloc (.cells #[.func (.func g) #[] lb] 75)).alloc (.cells #[.int .i64 0] 3)).alloc (.cells #[.func (.func 69) #[] #[.pointer (some ⟨w.heap.size + 1 + 1, 0, none⟩), .pointer (some ⟨w.heap.size, 0, none⟩), .pointer (some ⟨w.heap.size + 1, 0, none⟩), .pointer (some ⟨w.heap.size + 1 + 1 + 1, 0, none⟩)]] 99)) by go_grown)
  have B3 := B3.below (show Below (((w.alloc (.cells #[.int .i64 n] 3)).alloc (.cells #[.func (.func g) #[] lb] 75)).alloc (.cells #[.int .i64 0] 3)).heap.size (((w.alloc (.cells #[.int .i64 n] 3)).alloc (.cells #[.func (.func g) #[] lb] 75)).alloc (.cells #[.int .i64 0] 3)) ((((w.alloc (.cells #[.int .i64 n] 3)).alloc (.cells #[.func (.func g) #[] lb] 75)).alloc (.cells #[.int .i64 0] 3)).alloc (.cells #[.func (.func 69) #[] #[.pointer (some ⟨w.heap.size + 1 + 1, 0, none⟩), .pointer (some ⟨w.heap.size, 0, none⟩), .pointer (some ⟨w.heap.size + 1, 0, none⟩), .pointer (some ⟨w.heap.size + 1 + 1 + 1, 0, none⟩)]] 99)) by go_grown)
  have B4 : RowAt ((((w.alloc (.cells #[.int .i64 n] 3)).alloc (.cells #[.func (.func g) #[] lb] 75)).alloc (.cells #[.int .i64 0] 3)).alloc (.cells #[.func (.func 69) #[] #[.pointer (some ⟨w.heap.size + 1 + 1, 0, none⟩), .pointer (some ⟨w.heap.size, 0, none⟩), .pointer (some ⟨w.heap.size + 1, 0, none⟩), .pointer (some ⟨w.heap.size + 1 + 1 + 1, 0, none⟩)]] 99)) (w.heap.size + 1 + 1 + 1) 0 [.func (.func 69) #[] #[.pointer (some ⟨w.heap.size + 1 + 1, 0, none⟩), .pointer (some ⟨w.heap.size, 0, none⟩), .pointer (some ⟨w.heap.size + 1, 0, none⟩), .pointer (some ⟨w.heap.size + 1 + 1 + 1, 0, none⟩)]] := by have h := RowAt.box (((w.alloc (.cells #[.int .i64 n] 3)).alloc (.cells #[.func (.func g) #[] lb] 75)).alloc (.cells #[.int .i64 0] 3)) #[.func (.func 69) #[] #[.pointer (some ⟨w.heap.size + 1 + 1, 0, none⟩), .pointer (some ⟨w.heap.size, 0, none⟩), .pointer (some ⟨w.heap.size + 1, 0, none⟩), .pointer (some ⟨w.heap.size + 1 + 1 + 1, 0, none⟩)]] 99; simp only [World.size_alloc] at h; exact h
  have hw : Below w.heap.size w ((((w.alloc (.cells #[.int .i64 n] 3)).alloc (.cells #[.func (.func g) #[] lb] 75)).alloc (.cells #[.int .i64 0] 3)).alloc (.cells #[.func (.func 69) #[] #[.pointer (some ⟨w.heap.size + 1 + 1, 0, none⟩), .pointer (some ⟨w.heap.size, 0, none⟩), .pointer (some ⟨w.heap.size + 1, 0, none⟩), .pointer (some ⟨w.heap.size + 1 + 1 + 1, 0, none⟩)]] 99)) := by go_grown
  generalize ((((w.alloc (.cells #[.int .i64 n] 3)).alloc (.cells #[.func (.func g) #[] lb] 75)).alloc (.cells #[.int .i64 0] 3)).alloc (.cells #[.func (.func 69) #[] #[.pointer (some ⟨w.heap.size + 1 + 1, 0, none⟩), .pointer (some ⟨w.heap.size, 0, none⟩), .pointer (some ⟨w.heap.size + 1, 0, none⟩), .pointer (some ⟨w.heap.size + 1 + 1 + 1, 0, none⟩)]] 99)) = w1 at *
  have e4 := B4.box1
  have hcall := hw0.out w1 ⟨by omega, by omega⟩ (by omega) ⟨hw, by omega, by omega, B3.box1, hfz, B1.box1, B2.box1, e4⟩
  clear hw0 B1 B2 B3 B4 hw hfz
  generalize hd : decide (0 ≤ endsK n K (n + 1) 0) = d
  replace hd := Lib.hid hd
  have hcall : Calls Try.prog 69 #[.int .i64 0, .pointer (some ⟨w.heap.size + 1 + 1, 0, none⟩), .pointer (some ⟨w.heap.size, 0, none⟩), .pointer (some ⟨w.heap.size + 1, 0, none⟩), .pointer (some ⟨w.heap.size + 1 + 1 + 1, 0, none⟩)] w1 fun e w' => ∃ z : Nat, e = .returned (.bool d) ∧ Four w n g lb (w.heap.size + 1 + 1) w.heap.size (w.heap.size + 1) (w.heap.size + 1 + 1 + 1) z w' ∧ Hid (0 ≤ endsK n K (n + 1) 0 → (z : Int) = endsK n K (n + 1) 0) :=
    hcall.mono fun e w' ⟨z, h1, h2, h3⟩ => ⟨z, by rw [← hd.out, h1]; simp, h2, fun h => h3 rfl h⟩
  cases d with
  | true =>
    have h0 := of_decide_eq_true hd.out
    by_cases hz : endsK n K (n + 1) 0 = n
    · replace hcall : Calls Try.prog 69 #[.int .i64 0, .pointer (some ⟨w.heap.size + 1 + 1, 0, none⟩), .pointer (some ⟨w.heap.size, 0, none⟩), .pointer (some ⟨w.heap.size + 1, 0, none⟩), .pointer (some ⟨w.heap.size + 1 + 1 + 1, 0, none⟩)] w1 fun e w' => e = .returned (.bool true) ∧ Four w n g lb (w.heap.size + 1 + 1) w.heap.size (w.heap.size + 1) (w.heap.size + 1 + 1 + 1) n w' :=
        hcall.mono fun e w' ⟨z, h1, h2, h3⟩ => ⟨h1, by have h4 := h3 h0; obtain rfl : z = n := by omega
                                                       exact h2⟩
      have d3 : ((n : Int) == n) = true := by simp
      replace hz := Lib.hid hz
      clear h0
      go_wp2_with (go_at_call 69; refine hcall.mono ?_; rintro e w2 ⟨rfl, F⟩; have e1 := F.c1; have e2 := F.c2)
      go_returns
      exact ⟨by rw [decide_eq_true hz.out]; rfl, F.below⟩
    · replace hcall : Calls Try.prog 69 #[.int .i64 0, .pointer (some ⟨w.heap.size + 1 + 1, 0, none⟩), .pointer (some ⟨w.heap.size, 0, none⟩), .pointer (some ⟨w.heap.size + 1, 0, none⟩), .pointer (some ⟨w.heap.size + 1 + 1 + 1, 0, none⟩)] w1 fun e w' => ∃ z : Nat, e = .returned (.bool true) ∧ Four w n g lb (w.heap.size + 1 + 1) w.heap.size (w.heap.size + 1) (w.heap.size + 1 + 1 + 1) z w' ∧ ((z : Int) == n) = false :=
        hcall.mono fun e w' ⟨z, h1, h2, h3⟩ => ⟨z, h1, h2, by have h4 := h3 h0; simp; omega⟩
      replace hz := Lib.hid hz
      clear h0
      go_wp2_with (go_at_call 69; refine hcall.mono ?_; rintro e w2 ⟨z, rfl, F, d3⟩; have e1 := F.c1; have e2 := F.c2)
      go_returns
      exact ⟨by rw [decide_eq_false hz.out]; rfl, F.below⟩
  | false =>
    have h0 := of_decide_eq_false hd.out
    have hz : ¬ endsK n K (n + 1) 0 = n := by omega
    replace hz := Lib.hid hz
    clear h0
    go_wp2_with (go_at_call 69; refine hcall.mono ?_; rintro e w2 ⟨z, rfl, F, -⟩)
    go_returns
    exact ⟨by rw [decide_eq_false hz.out]; rfl, F.below⟩

end Go.Proofs.Ytpblhonnknmjjaa

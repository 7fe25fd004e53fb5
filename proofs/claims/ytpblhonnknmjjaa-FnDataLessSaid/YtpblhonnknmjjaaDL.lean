/- The reference's l01Raw and l01Text, l21Data and DrawDataLess. -/
import Derived.Test.YtpblhonnknmjjaaDData
namespace Go.Proofs.Ytpblhonnknmjjaa
open Go.RowKit
set_option linter.unusedVariables false
set_option linter.unusedSimpArgs false
attribute [local go_sem] Ext.cell

set_option maxRecDepth 100000 in
set_option maxHeartbeats 8000000 in
theorem l01Raw_c (W0 w : World) (b : Nat) (C : Cur W0 w b) :
    Calls Try.prog 38 #[.pointer (some ⟨b, 0, none⟩)] w fun e w' => ∃ x : Int, e = .returned (.int .i64 x) ∧ I64 x ∧ DF W0 b w w' := by
  replace C := Lib.hid C
  go_enter Try.func38, Try.ntmps38
  go_upto_region 2 with (go_at_call 21; (with_reducible refine (l01Below_c W0 _ b 11 (by omega) C.out).mono ?_); rintro e w1 ⟨x, rfl, hx0, hx1, hx2, D1⟩)
  have hk : ((x < 4) ∧ decide (x < 4) = true) ∨ (decide (x < 4) = false ∧ x = 4) ∨ (decide (x < 4) = false ∧ x = 5) ∨ (decide (x < 4) = false ∧ x = 6) ∨ (decide (x < 4) = false ∧ x = 7) ∨ (decide (x < 4) = false ∧ x = 8) ∨ (decide (x < 4) = false ∧ (x == 4) = false ∧ (x == 5) = false ∧ (x == 6) = false ∧ (x == 7) = false ∧ (x == 8) = false) := by
    simp; omega
  rcases hk with ⟨hk, hd⟩ | ⟨hd, rfl⟩ | ⟨hd, rfl⟩ | ⟨hd, rfl⟩ | ⟨hd, rfl⟩ | ⟨hd, rfl⟩ | ⟨hd, h4, h5, h6, h7, h8⟩
  · go_wp2_with (go_at_call 21; (with_reducible refine (l01Below_c W0 _ b 20 (by omega) D1.cur).mono ?_); rintro e w2 ⟨y, rfl, hy0, hy1, hy2, D2⟩)
    go_returns
    exact ⟨_, rfl, by constructor <;> omega, D1.trans D2⟩
  · go_wp2_with (go_at_call 21; (with_reducible refine (l01Below_c W0 _ b 3 (by omega) D1.cur).mono ?_); rintro e w2 ⟨y, rfl, hy0, hy1, hy2, D2⟩)
    go_returns
    exact ⟨_, rfl, by constructor <;> omega, D1.trans D2⟩
  · go_wp2_with (go_at_call 21; (with_reducible refine (l01Below_c W0 _ b 3 (by omega) D1.cur).mono ?_); rintro e w2 ⟨y, rfl, hy0, hy1, hy2, D2⟩)
    go_returns
    exact ⟨_, rfl, by constructor <;> omega, D1.trans D2⟩
  · go_wp2_with (go_at_call 21; (with_reducible refine (l01Below_c W0 _ b 2 (by omega) D1.cur).mono ?_); rintro e w2 ⟨y, rfl, hy0, hy1, hy2, D2⟩)
    go_returns
    exact ⟨_, rfl, by constructor <;> omega, D1.trans D2⟩
  · go_wp2_with (go_at_call 21; (with_reducible refine (l01Below_c W0 _ b 2 (by omega) D1.cur).mono ?_); rintro e w2 ⟨y, rfl, hy0, hy1, hy2, D2⟩)
    go_returns
    exact ⟨_, rfl, by constructor <;> omega, D1.trans D2⟩
  · go_wp2_with (go_at_call 21; (with_reducible refine (l01Below_c W0 _ b 63 (by omega) D1.cur).mono ?_); rintro e w2 ⟨y, rfl, hy0, hy1, hy2, D2⟩)
    go_returns
    exact ⟨_, rfl, wrap64_in _, D1.trans D2⟩
  · go_wp2_with (first
      | (go_at_call 21; (with_reducible refine (l01Below_c W0 _ b 65536 (by omega) D1.cur).mono ?_); rintro e w2 ⟨y, rfl, hy0, hy1, hy2, D2⟩)
      | (go_at_call 21; (with_reducible refine (l01Below_c W0 _ b 65536 (by omega) D2.cur).mono ?_); rintro e w3 ⟨z, rfl, hz0, hz1, hz2, D3⟩)
      | (go_at_call 21; (with_reducible refine (l01Below_c W0 _ b 1000 (by omega) D3.cur).mono ?_); rintro e w4 ⟨u, rfl, hu0, hu1, hu2, D4⟩))
    go_returns
    exact ⟨_, rfl, wrap64_in _, ((D1.trans D2).trans D3).trans D4⟩
def txtRow : Array Value := #[.string ⟨#[]⟩, .string ⟨#[97]⟩, .string ⟨#[97, 66, 95, 57]⟩, .string ⟨#[97, 98, 99, 100, 101, 102, 103, 104, 105, 106, 107, 108]⟩, .string ⟨#[97, 98, 99, 100, 101, 102, 103, 104, 105, 106, 107, 108, 109]⟩, .string ⟨#[65]⟩, .string ⟨#[67, 111, 110, 115]⟩, .string ⟨#[65, 66, 67, 68, 69, 70, 71, 72, 73, 74, 75, 76]⟩, .string ⟨#[65, 66, 67, 68, 69, 70, 71, 72, 73, 74, 75, 76, 77]⟩, .string ⟨#[57, 97]⟩, .string ⟨#[95, 97]⟩, .string ⟨#[108, 101, 116]⟩, .string ⟨#[114, 101, 102]⟩, .string ⟨#[116, 114, 117, 101]⟩, .string ⟨#[108, 101, 116, 115]⟩, .string ⟨#[195, 169]⟩, .string ⟨#[97, 195, 169]⟩]
theorem txt_at {W : World} {g k : Nat} (h : RowAt W g 0 txtRow.toList) (hk : k < 17) : ∃ s : ByteArray, W.cell? ⟨g, k, none⟩ = some (.string s) ∧ s.size ≤ 13 := by
  have hh : ∀ j c, txtRow.toList[j]? = some c → W.cell? ⟨g, j, none⟩ = some c := fun j c hc => by have := h j c hc; rwa [Nat.zero_add] at this
  match k, hk with
  | 0, _ => exact ⟨_, hh 0 _ rfl, by decide⟩
  | 1, _ => exact ⟨_, hh 1 _ rfl, by decide⟩
  | 2, _ => exact ⟨_, hh 2 _ rfl, by decide⟩
  | 3, _ => exact ⟨_, hh 3 _ rfl, by decide⟩
  | 4, _ => exact ⟨_, hh 4 _ rfl, by decide⟩
  | 5, _ => exact ⟨_, hh 5 _ rfl, by decide⟩
  | 6, _ => exact ⟨_, hh 6 _ rfl, by decide⟩
  | 7, _ => exact ⟨_, hh 7 _ rfl, by decide⟩
  | 8, _ => exact ⟨_, hh 8 _ rfl, by decide⟩
  | 9, _ => exact ⟨_, hh 9 _ rfl, by decide⟩
  | 10, _ => exact ⟨_, hh 10 _ rfl, by decide⟩
  | 11, _ => exact ⟨_, hh 11 _ rfl, by decide⟩
  | 12, _ => exact ⟨_, hh 12 _ rfl, by decide⟩
  | 13, _ => exact ⟨_, hh 13 _ rfl, by decide⟩
  | 14, _ => exact ⟨_, hh 14 _ rfl, by decide⟩
  | 15, _ => exact ⟨_, hh 15 _ rfl, by decide⟩
  | 16, _ => exact ⟨_, hh 16 _ rfl, by decide⟩
  | k + 17, hk => exact absurd hk (by omega)
set_option maxRecDepth 100000 in
set_option maxHeartbeats 8000000 in
theorem l01Text_c (W0 w : World) (b : Nat) (C : Cur W0 w b) :
    Calls Try.prog 39 #[.pointer (some ⟨b, 0, none⟩)] w fun e w' => ∃ s : ByteArray, e = .returned (.string s) ∧ s.size ≤ 13 ∧ DF W0 b w w' := by
  have hbl := C.lt
  have D0 := DF.refl C
  replace C := Lib.hid C
  replace D0 := Lib.hid D0
  go_enter Try.func39, Try.ntmps39
  go_wp2_with (go_at_call 21; (with_reducible refine (l01Below_c W0 _ b 17 (by omega) (D0.out.box _).cur).mono ?_); rintro e w1 ⟨x, rfl, hx0, hx1, hx2, D1⟩; obtain ⟨k, rfl⟩ := Int.eq_ofNat_of_zero_le hx0; have hk : k < 17 := (by omega); have hrow : RowAt w1 w.heap.size 0 txtRow.toList := (RowAt.box w txtRow 9).kept D1.kept (by omega); obtain ⟨s, q0, hs⟩ := txt_at hrow hk; have D2 := (D0.out.box _).trans D1; clear hrow hx0 hx1 hx2 D1)
  go_returns
  exact ⟨s, rfl, hs, D2⟩
end Go.Proofs.Ytpblhonnknmjjaa

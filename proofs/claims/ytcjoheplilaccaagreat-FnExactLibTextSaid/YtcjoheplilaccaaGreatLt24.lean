/- Parts of the proof, merged: Lx2, Lx3. -/
import Derived.Lib.SlBytesConst
import Derived.Test.YtcjoheplilaccaaGreatLt23
/- The program's lexer: symbol. -/
namespace Go.Proofs.YtcjoheplilaccaaGreat
open Go.RowKit
set_option linter.unusedVariables false
set_option linter.unusedSimpArgs false
attribute [local go_sem] Ext.cell

def sym2S : List ByteArray := [⟨#[45, 62]⟩, ⟨#[60, 62]⟩, ⟨#[60, 61]⟩, ⟨#[58, 61]⟩, ⟨#[58, 58]⟩]
theorem sym2S_get {j : Nat} {t : ByteArray} (h : sym2S[j]? = some t) : sym2[j]? = some t.data.toList ∧ t.size = 2 := by
  have hj : j < 5 := by have := (List.getElem?_eq_some_iff.1 h).1; simpa [sym2S] using this
  match j, hj with
  | 0, _ => simp [sym2S] at h; subst h; exact ⟨rfl, rfl⟩
  | 1, _ => simp [sym2S] at h; subst h; exact ⟨rfl, rfl⟩
  | 2, _ => simp [sym2S] at h; subst h; exact ⟨rfl, rfl⟩
  | 3, _ => simp [sym2S] at h; subst h; exact ⟨rfl, rfl⟩
  | 4, _ => simp [sym2S] at h; subst h; exact ⟨rfl, rfl⟩
theorem find_first {α : Type} {p : α → Bool} : ∀ {l : List α} {j : Nat} {x : α}, l[j]? = some x → p x = true → (∀ i < j, ∀ y, l[i]? = some y → p y = false) → l.find? p = some x
  | [], j, x, h, _, _ => by simp at h
  | a :: l, 0, x, h, hp, _ => by simp at h; subst h; simp [hp]
  | a :: l, j + 1, x, h, hp, hb => by
    have h0 := hb 0 (by omega) a rfl
    rw [List.find?_cons_of_neg (by simp [h0])]
    exact find_first (by simpa using h) hp fun i hi y hy => hb (i + 1) (by omega) y (by simpa using hy)
theorem find_none {α : Type} {p : α → Bool} {l : List α} (h : ∀ (i : Nat) y, l[i]? = some y → p y = false) : l.find? p = none := by
  rw [List.find?_eq_none]
  intro x hx
  obtain ⟨i, hi⟩ := List.getElem?_of_mem hx
  simp [h i x hi]
theorem symL_two {l : List UInt8} {j : Nat} {t : List UInt8} (h : sym2[j]? = some t) (hp : preB t l = true) (hb : ∀ i < j, ∀ y, sym2[i]? = some y → preB y l = false) : symL l = t := by
  unfold symL
  rw [find_first (p := fun t => preB t l) h hp hb]
theorem symL_one {x : UInt8} {r : List UInt8} (hb : ∀ (i : Nat) y, sym2[i]? = some y → preB y (x :: r) = false) : symL (x :: r) = if sym1.contains x then [x] else [] := by
  unfold symL
  rw [find_none (p := fun t => preB t (x :: r)) hb]
theorem u8_eq {x y : UInt8} : ((x.toNat : Int) == (y.toNat : Int)) = (x == y) := by
  by_cases h : x = y
  · subst h; simp
  · have : (x.toNat : Int) ≠ (y.toNat : Int) := fun h' => h (UInt8.toNat_inj.1 (by omega))
    rw [beq_eq_false_iff_ne.2 this, beq_eq_false_iff_ne.2 h]
def symRow : List Value := [.int .u8 40, .int .u8 41, .int .u8 91, .int .u8 93, .int .u8 44, .int .u8 59, .int .u8 124, .int .u8 61, .int .u8 60, .int .u8 43, .int .u8 45, .int .u8 42, .int .u8 47, .int .u8 37, .int .u8 94, .int .u8 33, .int .u8 95]
theorem symRow_get {j : Nat} (h : j < 17) : ∃ x : UInt8, sym1[j]? = some x ∧ symRow[j]? = some (.int .u8 (x.toNat : Int)) := by
  have e : symRow = sym1.map fun x => Value.int .u8 (x.toNat : Int) := by rfl
  obtain ⟨x, hx⟩ : ∃ x, sym1[j]? = some x := ⟨_, List.getElem?_eq_getElem (by simpa [sym1] using h)⟩
  exact ⟨x, hx, by rw [e, List.getElem?_map, hx]; rfl⟩
theorem has_one {x : UInt8} {j : Nat} (h : sym1[j]? = some x) : sym1.contains x = true := by
  rw [List.contains_iff_mem]; exact List.mem_of_getElem? h
theorem has_none {x : UInt8} (h : ∀ (i : Nat) y, sym1[i]? = some y → (x == y) = false) : sym1.contains x = false := by
  rw [← Bool.not_eq_true, List.contains_iff_mem]
  intro hm
  obtain ⟨i, hi⟩ := List.getElem?_of_mem hm
  have := h i x hi
  simp at this

theorem conv_byte (W : World) (g : Nat) (x : UInt8) (h : W.cell? ⟨g, 0, none⟩ = some (.int .u8 (x.toNat : Int))) : (convert 51 9 (Value.slice (some ⟨g, 0, none⟩) 1 1)).run Tryz.prog W = .ok (.string (baL [x])) W := by
  refine run_convert_bytes_back (P := Tryz.prog) _ 51 9 5 ⟨g, 0, none⟩ 1 [x] Tryz.underlying51 Tryz.underlying5 Tryz.underlying9 (fun j hj => ?_)
  obtain rfl : j = 0 := by simp at hj; exact hj
  exact h
theorem RowAt.box_fr (w : World) (cs : Array Value) (t : TypeId) (fr : Nat × Nat) : RowAt (w.alloc (.cells cs t fr)) w.heap.size 0 cs.toList := fun j c hc => by
  rw [Nat.zero_add]
  rw [cell_of_row (w.alloc (.cells cs t fr)) w.heap.size j cs t fr (heap_alloc_new w _), ← Array.getElem?_toList]
  exact hc
set_option maxRecDepth 100000 in
set_option maxHeartbeats 8000000 in
theorem symbol_c (s : ByteArray) (k b : Nat) (lv : Value) (hs : s.size ≤ 4000) (hk : k < s.size) (w : World) (R : LxS w b s k lv) :
    Calls Tryz.prog 76 #[.pointer (some ⟨b, 0, none⟩)] w fun e w' => e = .returned (.string (baL (symL (restB s k)))) ∧ Below w.heap.size w w' := by
  have hl := restB_cons hk
  have cS := fun (t : ByteArray) (h2 : t.size = 2) W (hW : Below w.heap.size w W) => starts_c s t k b lv hs (by omega) (by omega) (by omega) W (R.below hW)
  replace cS := Lib.hid cS; replace hl := Lib.hid hl
  go_enter Tryz.func76, Tryz.ntmps76
  go_upto_region 1 with fail
  go_upto_region 2 with fail
  obtain ⟨w1, hW1⟩ : ∃ W, W = w.alloc (.cells #[.string ⟨#[45, 62]⟩, .string ⟨#[60, 62]⟩, .string ⟨#[60, 61]⟩, .string ⟨#[58, 61]⟩, .string ⟨#[58, 58]⟩] 9) := ⟨_, rfl⟩
  rw [← hW1]
  have hw1 : Below w.heap.size w w1 := by rw [hW1]; go_grown
  have K1 : RowAt w1 w.heap.size 0 (sym2S.map Value.string) := by rw [hW1]; exact RowAt.box w #[.string ⟨#[45, 62]⟩, .string ⟨#[60, 62]⟩, .string ⟨#[60, 61]⟩, .string ⟨#[58, 61]⟩, .string ⟨#[58, 58]⟩] _
  clear hW1
  go_loopw [9] (fun ii wr => ∃ j : Nat, j ≤ 5 ∧ ii = .int .i64 j ∧ Below w.heap.size w wr ∧ RowAt wr w.heap.size 0 (sym2S.map Value.string) ∧ Hid (∀ i < j, ∀ y, sym2[i]? = some y → preB y (restB s k) = false)) (fun ii _ => 5 - (intOf ii).toNat)
  case atStart => exact ⟨0, by omega, rfl, hw1, K1, fun i hi => by omega⟩
  case round =>
    clear K1 hw1
    obtain ⟨j, hj, rfl, hw, K, hno⟩ := hrel
    have hz := hw.size
    by_cases hj5 : j < 5
    · obtain ⟨t, ht⟩ : ∃ t, sym2S[j]? = some t := ⟨_, List.getElem?_eq_getElem (by simpa [sym2S] using hj5)⟩
      obtain ⟨ht2, hts⟩ := sym2S_get ht
      have e0 : wr.cell? ⟨w.heap.size, j, none⟩ = some (.string t) := by
        have := K j (.string t) (by rw [List.getElem?_map, ht]; rfl)
        rw [Nat.zero_add] at this; exact this
      have hbe := World.block_lt_of_cell? _ _ e0; dsimp only at hbe
      have cS1 := cS.out t hts wr hw
      obtain ⟨q, hq⟩ : ∃ q, preB t.data.toList (restB s k) = q := ⟨_, rfl⟩
      rw [hq] at cS1
      replace cS1 := Lib.hid cS1; replace ht := Lib.hid ht
      cases q
      · have hno1 : Hid (∀ i < j + 1, ∀ y, sym2[i]? = some y → preB y (restB s k) = false) := fun i hi y hy => by
          by_cases e : i = j
          · subst e
            rw [ht2] at hy
            obtain rfl := Option.some.inj hy
            exact hq
          · exact hno.out i (by omega) y hy
        replace hq := Lib.hid hq; replace ht2 := Lib.hid ht2
        go_wp2_with (go_at_call 43; (with_reducible refine (cS1.out).mono ?_); rintro e w2 ⟨rfl, hb2⟩)
        go_roundw
        case rel => exact ⟨j + 1, by omega, by go_num, hw.trans (hb2.mono hz), K.below hb2, hno1⟩
        case measure => simp [intOf]; omega
      · have hsy := symL_two ht2 hq hno.out
        have hba : baL (symL (restB s k)) = t := by rw [hsy]; rfl
        replace hq := Lib.hid hq; replace ht2 := Lib.hid ht2; replace hsy := Lib.hid hsy; replace hba := Lib.hid hba
        go_wp2_with (go_at_call 43; (with_reducible refine (cS1.out).mono ?_); rintro e w2 ⟨rfl, hb2⟩)
        go_returns
        exact ⟨by rw [hba.out]; rfl, hw.trans (hb2.mono hz)⟩
    · obtain rfl : j = 5 := by omega
      have hnone : ∀ (i : Nat) y, sym2[i]? = some y → preB y (restB s k) = false := fun i y hy => hno.out i (by have := (List.getElem?_eq_some_iff.1 hy).1; simpa [sym2] using this) y hy
      have hone : symL (restB s k) = if sym1.contains s[k] then [s[k]] else [] := by
        rw [hl.out] at hnone ⊢
        exact symL_one hnone
      have R1 := R.below hw
      replace hnone := Lib.hid hnone; replace hone := Lib.hid hone
      have hcs := Lib.run_convert_bytes_const (P := Tryz.prog) wr 51 5 #[.int .u8 40, .int .u8 41, .int .u8 91, .int .u8 93, .int .u8 44, .int .u8 59, .int .u8 124, .int .u8 61, .int .u8 60, .int .u8 43, .int .u8 45, .int .u8 42, .int .u8 47, .int .u8 37, .int .u8 94, .int .u8 33, .int .u8 95] 17 17 Tryz.underlying51 Tryz.underlying5
      go_upto_region 8 with fail
      clear hcs
      obtain ⟨w2, hW2⟩ : ∃ W, W = wr.alloc (.cells #[.int .u8 40, .int .u8 41, .int .u8 91, .int .u8 93, .int .u8 44, .int .u8 59, .int .u8 124, .int .u8 61, .int .u8 60, .int .u8 43, .int .u8 45, .int .u8 42, .int .u8 47, .int .u8 37, .int .u8 94, .int .u8 33, .int .u8 95] 5 (17, 18)) := ⟨_, rfl⟩
      rw [← hW2]
      have hw2 : Below w.heap.size w w2 := by rw [hW2]; exact hw.trans (Below.mono (by go_grown) hz)
      have K2 : RowAt w2 wr.heap.size 0 symRow := by rw [hW2]; exact RowAt.box_fr wr #[_, _, _, _, _, _, _, _, _, _, _, _, _, _, _, _, _] _ _
      have R2 : LxS w2 b s k lv := by rw [hW2]; exact R1.below (by go_grown)
      obtain ⟨g, hg⟩ : ∃ g, g = wr.heap.size := ⟨_, rfl⟩
      rw [← hg] at K2 ⊢
      clear hW2 R1 K hno hg
      go_loopw [21] (fun ii wr2 => ∃ j : Nat, j ≤ 17 ∧ ii = .int .i64 j ∧ Below w.heap.size w wr2 ∧ RowAt wr2 g 0 symRow ∧ LxS wr2 b s k lv ∧ Hid (∀ i < j, ∀ y, sym1[i]? = some y → (s[k] == y) = false)) (fun ii _ => 17 - (intOf ii).toNat)
      case atStart => exact ⟨0, by omega, rfl, hw2, K2, R2, fun i hi => by omega⟩
      case round =>
        clear K2 hw2 R2 R
        obtain ⟨j, hj, rfl, hw2, K2, R2, hno⟩ := hrel
        have hz2 := hw2.size
        obtain ⟨r_0, r_1, r_2, r_3⟩ := R2.row.box4
        have hbl := R2.lt
        by_cases hj5 : j < 17
        · obtain ⟨x, hx1, hx2⟩ := symRow_get hj5
          have e0 : wr.cell? ⟨g, j, none⟩ = some (.int .u8 (x.toNat : Int)) := by
            have := K2 j _ hx2
            rw [Nat.zero_add] at this; exact this
          have hbe := World.block_lt_of_cell? _ _ e0; dsimp only at hbe
          obtain ⟨q, hq⟩ : ∃ q, ((s[k].toNat : Int) == (x.toNat : Int)) = q := ⟨_, rfl⟩
          have hq2 := hq
          rw [u8_eq] at hq2
          cases q
          · have hno1 : Hid (∀ i < j + 1, ∀ y, sym1[i]? = some y → (s[k] == y) = false) := fun i hi y hy => by
              by_cases e : i = j
              · subst e
                rw [hx1] at hy
                obtain rfl := Option.some.inj hy
                exact hq2
              · exact hno.out i (by omega) y hy
            replace hq2 := Lib.hid hq2; replace hx1 := Lib.hid hx1; replace hx2 := Lib.hid hx2
            go_upto_region 10 with fail
            (refine wp_region_ext_lit (by kernel_rfl) (by kernel_rfl) ?_; (repeat (any_goals (first | go_big_quiet_step (fail) | quiet_step (fail) | (refine wpQuiet_step (fun K hK => ?_); go_simp; split <;> (refine hK _ ?_; clear hK K))))); all_goals (refine wpQuiet_nil ?_; rintro w3 ⟨⟨_, hb3⟩, rfl⟩))
            go_wp2_with fail
            go_roundw
            case rel => exact ⟨j + 1, by omega, by go_num, hw2.trans (hb3.mono hz2), K2.below hb3, R2.below hb3, hno1⟩
            case measure => simp [intOf]; omega
          · have hxx : s[k] = x := by simpa using hq2
            have hsy : baL (symL (restB s k)) = baL [x] := by
              rw [hone.out, hxx, if_pos (has_one hx1)]
            replace hq2 := Lib.hid hq2; replace hx1 := Lib.hid hx1; replace hx2 := Lib.hid hx2; replace hsy := Lib.hid hsy; replace hxx := Lib.hid hxx
            go_upto_region 10 with fail
            (refine wp_region_ext_lit (by kernel_rfl) (by kernel_rfl) ?_; (repeat (any_goals (first | go_big_quiet_step (fail) | quiet_step (fail) | (refine wpQuiet_step (fun K hK => ?_); go_simp; split <;> (refine hK _ ?_; clear hK K))))); all_goals (refine wpQuiet_nil ?_; rintro w3 ⟨⟨_, hb3⟩, rfl⟩))
            have hrun := conv_byte (w3.alloc (.cells #[.int .u8 (x.toNat : Int)] 5)) w3.heap.size x (by simp [go_sem])
            have hw3 := hw2.trans (hb3.mono hz2)
            generalize baL [x] = sx at *
            go_wp2_with fail
            go_returns
            exact ⟨by rw [hsy.out]; rfl, hw3.trans (Below.mono (by go_grown) hw3.size)⟩
        · obtain rfl : j = 17 := by omega
          have hsy : baL (symL (restB s k)) = ⟨#[]⟩ := by
            rw [hone.out, has_none (fun i y hy => hno.out i (by have := (List.getElem?_eq_some_iff.1 hy).1; simpa [sym1] using this) y hy)]
            rfl
          replace hsy := Lib.hid hsy
          go_wp2_with fail
          go_returns
          exact ⟨by rw [hsy.out]; rfl, hw2⟩
end Go.Proofs.YtcjoheplilaccaaGreat

/- The program's lexer: TextNum of one digit; a token. -/
namespace Go.Proofs.YtcjoheplilaccaaGreat
open Go.RowKit
set_option linter.unusedVariables false
set_option linter.unusedSimpArgs false
attribute [local go_sem] Ext.cell

theorem numText01 : numText 0 = ⟨#[48]⟩ ∧ numText 1 = ⟨#[49]⟩ := by
  constructor <;> (unfold numText; rw [if_pos (by omega), if_neg (by omega)]; rw [show Int.natAbs _ = _ from rfl, numS_small (by omega)]; rfl)
theorem numL01_ways {l : List UInt8} {n : Int} (h : numL01 l = some n) : (l = [48] ∧ n = 0) ∨ (l = [49] ∧ n = 1) := by
  unfold numL01 at h
  split at h
  · rename_i e; exact .inl ⟨e, (Option.some.inj h).symm⟩
  · split at h
    · rename_i e; exact .inr ⟨e, (Option.some.inj h).symm⟩
    · cases h
set_option maxRecDepth 100000 in
set_option maxHeartbeats 8000000 in
theorem textNum01_c (l : List UInt8) (n : Int) (h : numL01 l = some n) (w : World) : Calls Tryz.prog 68 #[.string (baL l)] w fun e w' => e = .returned (.tuple #[.int .i64 n, .bool true]) ∧ Below w.heap.size w w' := by
  obtain ⟨t0, t1⟩ := numText01
  rcases numL01_ways h with ⟨rfl, rfl⟩ | ⟨rfl, rfl⟩
  · have cN := fun W => impl_NumText_c 0 ⟨by decide, by decide⟩ W
    rw [t0] at cN
    have cD := fun W => isDigit_c 48 W
    rw [show digB 48 = true from rfl] at cD
    replace cN := Lib.hid cN; replace cD := Lib.hid cD
    clear t0 t1 h
    have hby : ((⟨#[48]⟩ : ByteArray)[0]'(by decide)).toNat = 48 := rfl
    show Calls Tryz.prog 68 #[.string ⟨#[48]⟩] w _
    go_enter Tryz.func68, Tryz.ntmps68
    go_wp2_with fail
    go_loopw [5, 6] (fun nn ii wr => ∃ j : Nat, j ≤ 1 ∧ nn = .int .i64 0 ∧ ii = .int .i64 j ∧ Below w.heap.size w wr) (fun _ ii _ => 1 - (intOf ii).toNat)
    case atStart => exact ⟨0, by omega, rfl, rfl, Below.refl _ _⟩
    case round =>
      obtain ⟨j, hj, rfl, rfl, hw⟩ := hrel
      by_cases hj1 : j = 0
      · subst hj1
        go_wp2_with (go_at_call 66; (with_reducible refine (cD.out _).mono ?_); rintro e w2 ⟨rfl, rfl⟩)
        go_roundw
        case rel => exact ⟨1, by omega, rfl, by go_num, hw⟩
        case measure => simp [intOf]
      · obtain rfl : j = 1 := by omega
        go_wp2_with (go_at_call 94; (with_reducible refine (cN.out _).mono ?_); rintro e w2 ⟨rfl, hb2⟩)
        go_returns
        exact ⟨rfl, hw.trans (hb2.mono hw.size)⟩
  · have cN := fun W => impl_NumText_c 1 ⟨by decide, by decide⟩ W
    rw [t1] at cN
    have cD := fun W => isDigit_c 49 W
    rw [show digB 49 = true from rfl] at cD
    replace cN := Lib.hid cN; replace cD := Lib.hid cD
    clear t0 t1 h
    have hby : ((⟨#[49]⟩ : ByteArray)[0]'(by decide)).toNat = 49 := rfl
    show Calls Tryz.prog 68 #[.string ⟨#[49]⟩] w _
    go_enter Tryz.func68, Tryz.ntmps68
    go_wp2_with fail
    go_loopw [5, 6] (fun nn ii wr => ∃ j : Nat, j ≤ 1 ∧ nn = .int .i64 j ∧ ii = .int .i64 j ∧ Below w.heap.size w wr) (fun _ ii _ => 1 - (intOf ii).toNat)
    case atStart => exact ⟨0, by omega, rfl, rfl, Below.refl _ _⟩
    case round =>
      obtain ⟨j, hj, rfl, rfl, hw⟩ := hrel
      by_cases hj1 : j = 0
      · subst hj1
        go_wp2_with (go_at_call 66; (with_reducible refine (cD.out _).mono ?_); rintro e w2 ⟨rfl, rfl⟩)
        go_roundw
        case rel => exact ⟨1, by omega, by go_num, by go_num, hw⟩
        case measure => simp [intOf]
      · obtain rfl : j = 1 := by omega
        go_wp2_with (go_at_call 94; (with_reducible refine (cN.out _).mono ?_); rintro e w2 ⟨rfl, hb2⟩)
        go_returns
        exact ⟨rfl, hw.trans (hb2.mono hw.size)⟩
end Go.Proofs.YtcjoheplilaccaaGreat

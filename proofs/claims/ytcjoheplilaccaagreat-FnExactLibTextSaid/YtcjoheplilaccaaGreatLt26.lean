/- Parts of the proof, merged: Lx5. -/
import Derived.Deep.RegionHeld3
import Derived.Deep.RegionLaw
import Derived.Test.YtcjoheplilaccaaGreatLt25
/- The program's Lex, where it meets no error. -/
namespace Go.Proofs.YtcjoheplilaccaaGreat
open Go.RowKit
set_option linter.unusedVariables false
set_option linter.unusedSimpArgs false
attribute [local go_sem] Ext.cell

theorem info_Tok : (Tryz.prog.info? 75).map (fun i => (i.zero, i.size, i.bytes)) = some (some (.agg #[.int .i64 0, .int .i64 0, .string ⟨#[]⟩, .int .i64 0]), 4, 40) := by kernel_rfl
theorem flatTok : Flat GTok.R 4 tokRow GTok.wf := ⟨fun h => h, fun h _ _ => ⟨rfl, h⟩, fun _ => rfl, fun _ u hu => by simp [tokRow] at hu; rcases hu with rfl | rfl | rfl | rfl <;> rfl, by decide⟩
/-- Tokens are right values, and tokens have some length. -/
theorem tokL_good {s : ByteArray} {k : Nat} (hs : s.size ≤ 4000) (hk : k < s.size) {t : GTok} {n : Nat} (h : tokL k (restB s k) = some (t, n)) : t.wf ∧ k + n ≤ s.size ∧ 0 < n := by
  have hle := wordL_le s (Nat.le_of_lt hk)
  rw [tokL_at hk] at h
  have hz : ∀ j : Int, 0 ≤ j → j ≤ 6 → I64 j := fun j h1 h2 => ⟨by omega, by omega⟩
  have hk' : I64 (k : Int) := ⟨by omega, by omega⟩
  split at h
  · obtain ⟨n0, hn0, hnt⟩ := Option.map_eq_some_iff.1 h
    obtain ⟨rfl, rfl⟩ : (⟨1, n0, baL [], (k : Int)⟩ : GTok) = t ∧ (wordL (restB s k)).length = n := ⟨congrArg Prod.fst hnt, congrArg Prod.snd hnt⟩
    refine ⟨⟨hz 1 (by omega) (by omega), ?_, baL_ok (by simp), hk'⟩, hle, ?_⟩
    · rcases numL01_ways hn0 with ⟨_, rfl⟩ | ⟨_, rfl⟩
      · exact hz 0 (by omega) (by omega)
      · exact hz 1 (by omega) (by omega)
    · rcases numL01_ways hn0 with ⟨e, _⟩ | ⟨e, _⟩ <;> (rw [e]; decide)
  · split at h
    · rename_i hlu
      have hwp : 0 < (wordL (restB s k)).length := by
        rw [wordL_go hk (by unfold wordB; cases h1 : lowB s[k].toNat <;> cases h2 : upB s[k].toNat <;> simp_all)]
        simp
      split at h
      · obtain ⟨rfl, rfl⟩ : (⟨3, 0, baL (wordL (restB s k)), (k : Int)⟩ : GTok) = t ∧ (wordL (restB s k)).length = n := by have := Option.some.inj h; exact ⟨congrArg Prod.fst this, congrArg Prod.snd this⟩
        exact ⟨⟨hz 3 (by omega) (by omega), hz 0 (by omega) (by omega), baL_ok (by omega), hk'⟩, hle, hwp⟩
      · split at h
        · cases h
        · split at h
          · obtain ⟨rfl, rfl⟩ : (⟨6, 0, baL (wordL (restB s k)), (k : Int)⟩ : GTok) = t ∧ (wordL (restB s k)).length = n := by have := Option.some.inj h; exact ⟨congrArg Prod.fst this, congrArg Prod.snd this⟩
            exact ⟨⟨hz 6 (by omega) (by omega), hz 0 (by omega) (by omega), baL_ok (by omega), hk'⟩, hle, hwp⟩
          · cases h
    · split at h
      · cases h
      · split at h
        · cases h
        · rename_i hsyn
          obtain ⟨rfl, rfl⟩ : (⟨6, 0, baL (symL (restB s k)), (k : Int)⟩ : GTok) = t ∧ (symL (restB s k)).length = n := by have := Option.some.inj h; exact ⟨congrArg Prod.fst this, congrArg Prod.snd this⟩
          have hsl : (symL (restB s k)).length ≤ (restB s k).length := by
            unfold symL
            split
            · rename_i u hu
              have := List.find?_some hu
              unfold preB at this
              rw [List.isPrefixOf_iff_prefix] at this
              exact this.length_le
            · split
              · exact Nat.zero_le _
              · split
                · rw [restB_len]; show 1 ≤ _; omega
                · exact Nat.zero_le _
          rw [restB_len] at hsl
          exact ⟨⟨hz 6 (by omega) (by omega), hz 0 (by omega) (by omega), baL_ok (by omega), hk'⟩, by omega, List.length_pos_iff.2 hsyn⟩
theorem lexL_end {f k : Nat} {s : ByteArray} {acc out : List GTok} (h : lexL f k (restB s k) acc = some out) (hk : s.size ≤ k) : acc = out := by
  cases f with
  | zero => cases h
  | succ f => rw [restB_nil hk, lexL] at h; exact Option.some.inj h
theorem lexL_go {f k : Nat} {s : ByteArray} {acc out : List GTok} (h : lexL f k (restB s k) acc = some out) (hk : k < s.size) : ∃ g, f = g + 1 ∧
    ((blankB s[k].toNat = true ∧ lexL g (k + 1) (restB s (k + 1)) acc = some out) ∨
     (blankB s[k].toNat = false ∧ preB [40, 42] (restB s k) = false ∧ ∃ t n, tokL k (restB s k) = some (t, n) ∧ lexL g (k + n) (restB s (k + n)) (acc ++ [t]) = some out)) := by
  cases f with
  | zero => cases h
  | succ g =>
    refine ⟨g, rfl, ?_⟩
    have hc := restB_cons hk
    rw [hc, lexL] at h
    rw [← hc] at h
    split at h
    · rename_i hb; exact .inl ⟨hb, h⟩
    · rename_i hb
      split at h
      · cases h
      · rename_i hp
        refine .inr ⟨by simpa using hb, by simpa using hp, ?_⟩
        cases ht : tokL k (restB s k) with
        | none => rw [ht] at h; cases h
        | some q =>
          obtain ⟨t, n⟩ := q
          rw [ht] at h
          dsimp only at h
          rw [restB_drop] at h
          exact ⟨t, n, rfl, h⟩
/-- What the lexer's run leaves. -/
def LexPost (out : List GTok) (w : World) (e : Ending) (w' : World) : Prop :=
  ∃ lv, e = .returned (.tuple #[lv, .int .i64 0, .int .i64 0]) ∧ OwnF 75 4 tokRow GTok.wf w.heap.size w' lv out ∧ Below w.heap.size w w'

set_option maxRecDepth 100000 in
set_option maxHeartbeats 16000000 in
theorem Lex_c (s : ByteArray) (hs : s.size ≤ 4000) (out : List GTok) (F : Nat) (hF : F ≤ 4000) (h : lexL F 0 (restB s 0) [] = some out) (w : World) : Calls Tryz.prog 33 #[.string s] w (LexPost out w) := by
  have d0 : decide ((4000 : Int) < (s.size : Int)) = false := decide_eq_false (by omega)
  obtain ⟨iD, hi0, hz0, hz1, hz2⟩ := info_parts info_Tok; have ID := Lib.hid hi0; have ID0 := Lib.hid hz0; have ID1 := Lib.hid hz1; have ID2 := Lib.hid hz2; clear hi0 hz0 hz1 hz2
  go_enter Tryz.func33, Tryz.ntmps33
  go_upto_region 4 with fail
  obtain ⟨w1, hW1⟩ : ∃ W, W = w.alloc (.cells #[.string s, .int .i64 0, .slice none 0 0, .int .i64 0] 71) := ⟨_, rfl⟩
  rw [← hW1]
  have hb1 : Below w.heap.size w w1 := by rw [hW1]; go_grown
  have X1 : LxS w1 w.heap.size s 0 (.slice none 0 0) := by rw [hW1]; exact ⟨RowAt.box w #[_, _, _, _] _, Wr.box w #[_, _, _, _] _⟩
  clear hW1
  obtain ⟨x_0, x_1, x_2, x_3⟩ := X1.row.box4
  have hbx := X1.lt
  have hb0 : Hid (lexL F 0 (restB s 0) [] = some out) := h
  go_loopw [16] (fun z wr => ∃ (k f : Nat) (lv : Value) (acc : List GTok), k ≤ s.size ∧ acc.length + f ≤ F ∧ Hid (lexL f k (restB s k) acc = some out) ∧ LxS wr w.heap.size s k lv ∧ Hid (OwnF 75 4 tokRow GTok.wf (w.heap.size + 1) wr lv acc) ∧ Below w.heap.size w wr) (fun _ wr => s.size - placeX w.heap.size wr)
  case atStart => exact ⟨0, F, .slice none 0 0, [], by omega, by simp, hb0, X1, OwnF.empty, hb1⟩
  case round =>
    clear x_0 x_1 x_2 x_3 hbx X1 hb1 hb0 h
    obtain ⟨k, f, lv, acc, hk, haf, hf, X, O, hw⟩ := hrel
    obtain ⟨x_0, x_1, x_2, x_3⟩ := X.row.box4
    have hbx := X.lt
    have hwz := hw.size
    have hpl := X.place
    by_cases hlt : k < s.size
    · obtain ⟨g, rfl, hway⟩ := lexL_go hf.out hlt
      have d1 : decide ((k : Int) < (s.size : Int)) = true := decide_eq_true (by omega)
      have cB := fun W => isBlank_c (s[k].toNat : Int) W
      rcases hway with ⟨hb, hl⟩ | ⟨hb, hp, t, n, ht, hl⟩
      · rw [hb] at cB
        have f_1 := X.wr.frz 1 (by omega)
        have e1 : (k : Int) + 1 = ((k + 1 : Nat) : Int) := by omega
        replace cB := Lib.hid cB; replace hb := Lib.hid hb; replace hl := Lib.hid hl; replace hpl := Lib.hid hpl
        clear hf
        have X2 := X.setAt (j := k + 1)
        rw [← e1] at X2
        have hpl2 := X2.place
        replace e1 := Lib.hid e1
        go_wp2_with (go_at_call 42; (with_reducible refine (cB.out _).mono ?_); rintro e w2 ⟨rfl, rfl⟩)
        go_roundw
        case rel => exact ⟨k + 1, g, lv, acc, by omega, by omega, hl, X2, O.out.kept (S := (· = w.heap.size)) ((Kept.refl (· = w.heap.size) wr).set (p := ⟨w.heap.size, 1, none⟩) rfl _) (fun q hq e => by have := (own_base O.out.1 q hq).1; omega), hw.setCell (p := ⟨w.heap.size, 1, none⟩) (Nat.le_refl _) _⟩
        case measure => rw [hpl2, hpl.out]; omega
      · rw [hb] at cB
        obtain ⟨htw, hkn, hn0⟩ := tokL_good hs hlt ht
        have cS := fun W (hW : Below wr.heap.size wr W) => starts_c s ⟨#[40, 42]⟩ k w.heap.size lv hs (by decide) (by decide) hk W (X.below hW)
        rw [show preB (⟨#[40, 42]⟩ : ByteArray).data.toList (restB s k) = false from hp] at cS
        have cT := fun W (hW : Below wr.heap.size wr W) => token_c s k w.heap.size lv hs hlt t n ht W (X.below hW)
        obtain ⟨kd, nn, s0, a⟩ := t
        replace cT : ∀ W (hW : Below wr.heap.size wr W), Calls Tryz.prog 45 #[.pointer (some ⟨w.heap.size, 0, none⟩)] W fun e w' => e = .returned (.tuple #[.agg #[.int .i64 kd, .int .i64 nn, .string s0, .int .i64 a], .int .i64 (n : Int), .int .i64 0]) ∧ Below W.heap.size W w' := cT
        obtain ⟨la, lc, rfl⟩ := O.out.form
        have hown0 := O.out.1
        have hOK := O.out.2
        have hob := own_base hown0
        have hacc : acc.length ≤ 4000 := by omega
        generalize hm : acc.length = m at *
        replace hm := Lib.hid hm
        replace cB := Lib.hid cB; replace hb := Lib.hid hb; replace hl := Lib.hid hl; replace hpl := Lib.hid hpl; replace cS := Lib.hid cS; replace cT := Lib.hid cT; replace hown0 := Lib.hid hown0; replace hOK := Lib.hid hOK; replace hob := Lib.hid hob; replace ht := Lib.hid ht; replace hp := Lib.hid hp
        clear hf O
        go_upto_region 13 with (first
          | (go_at_call 42; (with_reducible refine (cB.out _).mono ?_); rintro e w2 ⟨rfl, rfl⟩)
          | (go_at_call 43; (with_reducible refine (cS.out _ (Below.refl _ _)).mono ?_); rintro e w3 ⟨rfl, hb3⟩)
          | (go_at_call 45; (with_reducible refine (cT.out _ hb3).mono ?_); rintro e w4 ⟨rfl, hb4⟩))
        have hz3 := hb3.size
        have hz4 := hb4.size
        have hbx0 := X.lt
        obtain ⟨w5, hW5⟩ : ∃ W, W = w4.alloc (.cells #[.int .i64 kd, .int .i64 nn, .string s0, .int .i64 a] 75) := ⟨_, rfl⟩
        rw [← hW5]
        have hb5 : Below w4.heap.size w4 w5 := by rw [hW5]; go_grown
        have T5 : RowAt w5 w4.heap.size 0 [.int .i64 kd, .int .i64 nn, .string s0, .int .i64 a] := by rw [hW5]; exact RowAt.box w4 #[_, _, _, _] _
        have h35 : Below wr.heap.size wr w5 := (hb3.trans (hb4.mono hz3)).trans (hb5.mono (by omega))
        have X5 := X.below h35
        have hz5 := h35.size
        clear hW5 x_0 x_1 x_2 x_3 hbx hb5 hb3 hb4
        obtain ⟨x_0, x_1, x_2, x_3⟩ := X5.row.box4
        have f_1 := X5.wr.frz 1 (by omega)
        have f_2 := X5.wr.frz 2 (by omega)
        have hbx := X5.lt
        obtain ⟨t5_0, t5_1, t5_2, t5_3⟩ := T5.box4; have hsT5 := World.block_lt_of_cell? _ _ t5_0; dsimp only at hsT5
        have hne : ¬ w4.heap.size = w.heap.size := by omega
        have hne2 : ∀ q, (Value.slice la m lc).ownBlock = some q → w.heap.size + 1 ≤ q := fun q hq => (hob.out q hq).1
        replace hne2 := Lib.hid hne2
        go_region_law ((refine step_append_lies _ (by rfl) _ _ _ (by rfl) (w.heap.size + 1) 75 iD _ 4 40 Tryz.underlying52 ID.out ID0.out ID1.out ID2.out rfl (by omega) _ (m) (rowsOf tokRow acc) (by rfl) (own_below hown0.out (h35.trans (Below.mono (by go_grown) hz5))) ⟨w5.heap.size, 0, none⟩ 1 1 [.int .i64 kd, .int .i64 nn, .string s0, .int .i64 a] (by rfl) (by rfl) (World.news_of_block (cs := #[.int .i64 kd, .int .i64 nn, .string s0, .int .i64 a]) (t := 75) (fr := (0, 0)) (heap_alloc_new' _ _ _ (by simp))) (by intro u hu; simp at hu; (first | (subst hu; rfl) | (rcases hu with rfl | rfl | rfl | rfl <;> rfl) | (rcases hu with rfl | rfl | rfl | rfl | rfl | rfl <;> rfl) | (rcases hu with rfl | rfl | rfl | rfl | rfl | rfl | rfl <;> rfl))) (by omega) (by unfold maxLen; omega) (by omega) (by simp; omega) _ rfl ?_; intro g2 cap2 w6 hown hgrow hat hlt2); have k6 := kept_of hgrow (w := wr) (h35.trans (Below.mono (by go_grown) hz5)); have X6 := X.kept k6 (fun e => by have := hne2.out _ e.symm; omega); obtain ⟨m_0, m_1, m_2, m_3⟩ := X6.row.box4; have mf_1 := X6.wr.frz 1 (by omega); have mf_2 := X6.wr.frz 2 (by omega); have mbx := X6.lt)
        all_goals
          have hB6 : Below w.heap.size w w6 := hw.trans ((below_grown2 (wr := wr) (base := w.heap.size + 1) hgrow (h35.trans (Below.mono (by go_grown) hz5)) (Below.refl _ wr) (by omega) hown0.out).mono (by omega))
          have hz6 : w5.heap.size + 1 ≤ w6.heap.size := by have := hgrow.size; simpa using this
          have O6 : Hid (OwnF 75 4 tokRow GTok.wf (w.heap.size + 1) (w6.setCell ⟨w.heap.size, 2, none⟩ (.slice (some ⟨g2, 0, none⟩) (m + 1) cap2)) (.slice (some ⟨g2, 0, none⟩) (m + 1) cap2) (acc ++ [⟨kd, nn, s0, a⟩])) := by
            refine OwnF.kept (S := (· = w.heap.size)) ⟨?_, fun y hy => ?_⟩ ((Kept.refl (· = w.heap.size) w6).set (p := ⟨w.heap.size, 2, none⟩) rfl _) (fun x hx e => ?_)
            · simp only [List.length_append, hm.out, List.length_singleton, rowsOf_append, rowsOf_one]
              exact hown
            · rcases List.mem_append.1 hy with h | h
              · exact hOK.out y h
              · simp only [List.mem_singleton] at h; rw [h]; exact htw
            · obtain rfl : g2 = x := by simpa [Value.ownBlock] using hx
              rcases hat with h | h
              · have := hne2.out g2 h; omega
              · simp at h; omega
          have X7 := X6.setList (.slice (some ⟨g2, 0, none⟩) (m + 1) cap2)
          have hB7 : Below w.heap.size w (w6.setCell ⟨w.heap.size, 2, none⟩ (.slice (some ⟨g2, 0, none⟩) (m + 1) cap2)) := hB6.setCell (p := ⟨w.heap.size, 2, none⟩) (Nat.le_refl _) _
          have e1 : (k : Int) + (n : Int) = ((k + n : Nat) : Int) := by omega
          clear hgrow hown hat hlt2 k6 m_0 m_1 m_2 m_3 mf_1 mf_2 mbx X6 t5_0 t5_1 t5_2 t5_3 hsT5 x_0 x_1 x_2 x_3 f_1 f_2 hbx
          generalize w6.setCell ⟨w.heap.size, 2, none⟩ (.slice (some ⟨g2, 0, none⟩) (m + 1) cap2) = w7 at *
          obtain ⟨x_0, x_1, x_2, x_3⟩ := X7.row.box4
          have f_1 := X7.wr.frz 1 (by omega)
          have hbx := X7.lt
          have X8 := X7.setAt (j := k + n)
          rw [← e1] at X8
          have hpl8 := X8.place
          replace e1 := Lib.hid e1
          go_wp2_with fail
          go_roundw
          case rel => exact ⟨k + n, g, _, acc ++ [⟨kd, nn, s0, a⟩], by omega, by simp only [List.length_append, hm.out, List.length_singleton]; omega, hl, X8, Lib.hid (O6.out.kept (S := (· = w.heap.size)) ((Kept.refl (· = w.heap.size) w7).set (p := ⟨w.heap.size, 1, none⟩) rfl _) (fun q hq e => by have := (own_base O6.out.1 q hq).1; omega)), hB7.setCell (p := ⟨w.heap.size, 1, none⟩) (Nat.le_refl _) _⟩
          case measure => rw [hpl8, hpl.out]; omega
    · obtain rfl := lexL_end hf.out (by omega)
      have d1 : decide ((k : Int) < (s.size : Int)) = false := decide_eq_false (by omega)
      replace hf := Lib.hid hf
      go_wp2_with fail
      go_returns
      exact ⟨lv, rfl, ⟨own_lo O.out.1 (by omega), O.out.2⟩, hw⟩
end Go.Proofs.YtcjoheplilaccaaGreat

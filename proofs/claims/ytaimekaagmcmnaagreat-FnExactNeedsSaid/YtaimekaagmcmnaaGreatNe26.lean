/- Parts of the proof, merged: Lx5, Flt2. -/
import Derived.Deep.RegionHeld3
import Derived.Deep.RegionLaw
import Derived.Test.YtaimekaagmcmnaaGreatNe25
/- The program's Lex, where it meets no error. -/
namespace Go.Proofs.YtaimekaagmcmnaaGreat
open Go.RowKit
set_option linter.unusedVariables false
set_option linter.unusedSimpArgs false
attribute [local go_sem] Ext.cell

theorem info_Tok : (Tryz.prog.info? 181).map (fun i => (i.zero, i.size, i.bytes)) = some (some (.agg #[.int .i64 0, .int .i64 0, .string ⟨#[]⟩, .int .i64 0]), 4, 40) := by kernel_rfl
theorem tokL_good {s : ByteArray} {k : Nat} (hs : s.size ≤ 4000) (hk : k < s.size) {t : GTok} {n : Nat} (h : tokL k (restB s k) = some (t, n)) : t.wf ∧ k + n ≤ s.size ∧ 0 < n := by
  have hle := wordL_le s (Nat.le_of_lt hk)
  rw [tokL_at hk] at h
  have hz : ∀ j : Int, 0 ≤ j → j ≤ 6 → I64 j := fun j h1 h2 => ⟨by omega, by omega⟩
  have hk' : I64 (k : Int) := ⟨by omega, by omega⟩
  split at h
  · obtain ⟨n0, hn0, hnt⟩ := Option.map_eq_some_iff.1 h
    obtain ⟨rfl, rfl⟩ : (⟨1, n0, baL [], (k : Int)⟩ : GTok) = t ∧ (wordL (restB s k)).length = n := ⟨congrArg Prod.fst hnt, congrArg Prod.snd hnt⟩
    refine ⟨⟨hz 1 (by omega) (by omega), ?_, baL_ok (by simp), hk'⟩, hle, ?_⟩
    · rcases numL01_ways hn0 with ⟨_, rfl⟩ | ⟨_, rfl⟩
      · exact hz 0 (by omega) (by omega)
      · exact hz 1 (by omega) (by omega)
    · rcases numL01_ways hn0 with ⟨e, _⟩ | ⟨e, _⟩ <;> (rw [e]; decide)
  · split at h
    · rename_i hlu
      have hwp : 0 < (wordL (restB s k)).length := by
        rw [wordL_go hk (by unfold wordB; cases h1 : lowB s[k].toNat <;> cases h2 : upB s[k].toNat <;> simp_all)]
        simp
      split at h
      · obtain ⟨rfl, rfl⟩ : (⟨3, 0, baL (wordL (restB s k)), (k : Int)⟩ : GTok) = t ∧ (wordL (restB s k)).length = n := by have := Option.some.inj h; exact ⟨congrArg Prod.fst this, congrArg Prod.snd this⟩
        exact ⟨⟨hz 3 (by omega) (by omega), hz 0 (by omega) (by omega), baL_ok (by omega), hk'⟩, hle, hwp⟩
      · split at h
        · cases h
        · split at h
          · obtain ⟨rfl, rfl⟩ : (⟨6, 0, baL (wordL (restB s k)), (k : Int)⟩ : GTok) = t ∧ (wordL (restB s k)).length = n := by have := Option.some.inj h; exact ⟨congrArg Prod.fst this, congrArg Prod.snd this⟩
            exact ⟨⟨hz 6 (by omega) (by omega), hz 0 (by omega) (by omega), baL_ok (by omega), hk'⟩, hle, hwp⟩
          · cases h
    · split at h
      · cases h
      · split at h
        · cases h
        · rename_i hsyn
          obtain ⟨rfl, rfl⟩ : (⟨6, 0, baL (symL (restB s k)), (k : Int)⟩ : GTok) = t ∧ (symL (restB s k)).length = n := by have := Option.some.inj h; exact ⟨congrArg Prod.fst this, congrArg Prod.snd this⟩
          have hsl : (symL (restB s k)).length ≤ (restB s k).length := by
            unfold symL
            split
            · rename_i u hu
              have := List.find?_some hu
              unfold preB at this
              rw [List.isPrefixOf_iff_prefix] at this
              exact this.length_le
            · split
              · exact Nat.zero_le _
              · split
                · rw [restB_len]; show 1 ≤ _; omega
                · exact Nat.zero_le _
          rw [restB_len] at hsl
          exact ⟨⟨hz 6 (by omega) (by omega), hz 0 (by omega) (by omega), baL_ok (by omega), hk'⟩, by omega, List.length_pos_iff.2 hsyn⟩
theorem lexL_end {f k : Nat} {s : ByteArray} {acc out : List GTok} (h : lexL f k (restB s k) acc = some out) (hk : s.size ≤ k) : acc = out := by
  cases f with
  | zero => cases h
  | succ f => rw [restB_nil hk, lexL] at h; exact Option.some.inj h
theorem lexL_go {f k : Nat} {s : ByteArray} {acc out : List GTok} (h : lexL f k (restB s k) acc = some out) (hk : k < s.size) : ∃ g, f = g + 1 ∧
    ((blankB s[k].toNat = true ∧ lexL g (k + 1) (restB s (k + 1)) acc = some out) ∨
     (blankB s[k].toNat = false ∧ preB [40, 42] (restB s k) = false ∧ ∃ t n, tokL k (restB s k) = some (t, n) ∧ lexL g (k + n) (restB s (k + n)) (acc ++ [t]) = some out)) := by
  cases f with
  | zero => cases h
  | succ g =>
    refine ⟨g, rfl, ?_⟩
    have hc := restB_cons hk
    rw [hc, lexL] at h
    rw [← hc] at h
    split at h
    · rename_i hb; exact .inl ⟨hb, h⟩
    · rename_i hb
      split at h
      · cases h
      · rename_i hp
        refine .inr ⟨by simpa using hb, by simpa using hp, ?_⟩
        cases ht : tokL k (restB s k) with
        | none => rw [ht] at h; cases h
        | some q =>
          obtain ⟨t, n⟩ := q
          rw [ht] at h
          dsimp only at h
          rw [restB_drop] at h
          exact ⟨t, n, rfl, h⟩
def LexPost (out : List GTok) (w : World) (e : Ending) (w' : World) : Prop :=
  ∃ lv, e = .returned (.tuple #[lv, .int .i64 0, .int .i64 0]) ∧ OwnF 181 4 tokRow GTok.wf w.heap.size w' lv out ∧ Below w.heap.size w w'

set_option maxRecDepth 100000 in
set_option maxHeartbeats 16000000 in
theorem Lex_c (s : ByteArray) (hs : s.size ≤ 4000) (out : List GTok) (F : Nat) (hF : F ≤ 4000) (h : lexL F 0 (restB s 0) [] = some out) (w : World) : Calls Tryz.prog 114 #[.string s] w (LexPost out w) := by
  have d0 : decide ((4000 : Int) < (s.size : Int)) = false := decide_eq_false (by omega)
  obtain ⟨iD, hi0, hz0, hz1, hz2⟩ := info_parts info_Tok; have ID := Lib.hid hi0; have ID0 := Lib.hid hz0; have ID1 := Lib.hid hz1; have ID2 := Lib.hid hz2; clear hi0 hz0 hz1 hz2
  go_enter Tryz.func114, Tryz.ntmps114
  go_upto_region 4 with fail
  obtain ⟨w1, hW1⟩ : ∃ W, W = w.alloc (.cells #[.string s, .int .i64 0, .slice none 0 0, .int .i64 0] 178) := ⟨_, rfl⟩
  rw [← hW1]
  have hb1 : Below w.heap.size w w1 := by rw [hW1]; go_grown
  have X1 : LxS w1 w.heap.size s 0 (.slice none 0 0) := by rw [hW1]; exact ⟨RowAt.box w #[_, _, _, _] _, Wr.box w #[_, _, _, _] _⟩
  clear hW1
  obtain ⟨x_0, x_1, x_2, x_3⟩ := X1.row.box4
  have hbx := X1.lt
  have hb0 : Hid (lexL F 0 (restB s 0) [] = some out) := h
  go_loopw [16] (fun z wr => ∃ (k f : Nat) (lv : Value) (acc : List GTok), k ≤ s.size ∧ acc.length + f ≤ F ∧ Hid (lexL f k (restB s k) acc = some out) ∧ LxS wr w.heap.size s k lv ∧ Hid (OwnF 181 4 tokRow GTok.wf (w.heap.size + 1) wr lv acc) ∧ Below w.heap.size w wr) (fun _ wr => s.size - placeX w.heap.size wr)
  case atStart => exact ⟨0, F, .slice none 0 0, [], by omega, by simp, hb0, X1, OwnF.empty, hb1⟩
  case round =>
    clear x_0 x_1 x_2 x_3 hbx X1 hb1 hb0 h
    obtain ⟨k, f, lv, acc, hk, haf, hf, X, O, hw⟩ := hrel
    obtain ⟨x_0, x_1, x_2, x_3⟩ := X.row.box4
    have hbx := X.lt
    have hwz := hw.size
    have hpl := X.place
    by_cases hlt : k < s.size
    · obtain ⟨g, rfl, hway⟩ := lexL_go hf.out hlt
      have d1 : decide ((k : Int) < (s.size : Int)) = true := decide_eq_true (by omega)
      have cB := fun W => isBlank_c (s[k].toNat : Int) W
      rcases hway with ⟨hb, hl⟩ | ⟨hb, hp, t, n, ht, hl⟩
      · rw [hb] at cB
        have f_1 := X.wr.frz 1 (by omega)
        have e1 : (k : Int) + 1 = ((k + 1 : Nat) : Int) := by omega
        replace cB := Lib.hid cB; replace hb := Lib.hid hb; replace hl := Lib.hid hl; replace hpl := Lib.hid hpl
        clear hf
        have X2 := X.setAt (j := k + 1)
        rw [← e1] at X2
        have hpl2 := X2.place
        replace e1 := Lib.hid e1
        go_wp2_with (go_at_call 131; (with_reducible refine (cB.out _).mono ?_); rintro e w2 ⟨rfl, rfl⟩)
        go_roundw
        case rel => exact ⟨k + 1, g, lv, acc, by omega, by omega, hl, X2, O.out.kept (S := (· = w.heap.size)) ((Kept.refl (· = w.heap.size) wr).set (p := ⟨w.heap.size, 1, none⟩) rfl _) (fun q hq e => by have := (own_base O.out.1 q hq).1; omega), hw.setCell (p := ⟨w.heap.size, 1, none⟩) (Nat.le_refl _) _⟩
        case measure => rw [hpl2, hpl.out]; omega
      · rw [hb] at cB
        obtain ⟨htw, hkn, hn0⟩ := tokL_good hs hlt ht
        have cS := fun W (hW : Below wr.heap.size wr W) => starts_c s ⟨#[40, 42]⟩ k w.heap.size lv hs (by decide) (by decide) hk W (X.below hW)
        rw [show preB (⟨#[40, 42]⟩ : ByteArray).data.toList (restB s k) = false from hp] at cS
        have cT := fun W (hW : Below wr.heap.size wr W) => token_c s k w.heap.size lv hs hlt t n ht W (X.below hW)
        obtain ⟨kd, nn, s0, a⟩ := t
        replace cT : ∀ W (hW : Below wr.heap.size wr W), Calls Tryz.prog 134 #[.pointer (some ⟨w.heap.size, 0, none⟩)] W fun e w' => e = .returned (.tuple #[.agg #[.int .i64 kd, .int .i64 nn, .string s0, .int .i64 a], .int .i64 (n : Int), .int .i64 0]) ∧ Below W.heap.size W w' := cT
        obtain ⟨la, lc, rfl⟩ := O.out.form
        have hown0 := O.out.1
        have hOK := O.out.2
        have hob := own_base hown0
        have hacc : acc.length ≤ 4000 := by omega
        generalize hm : acc.length = m at *
        replace hm := Lib.hid hm
        replace cB := Lib.hid cB; replace hb := Lib.hid hb; replace hl := Lib.hid hl; replace hpl := Lib.hid hpl; replace cS := Lib.hid cS; replace cT := Lib.hid cT; replace hown0 := Lib.hid hown0; replace hOK := Lib.hid hOK; replace hob := Lib.hid hob; replace ht := Lib.hid ht; replace hp := Lib.hid hp
        clear hf O
        go_upto_region 13 with (first
          | (go_at_call 131; (with_reducible refine (cB.out _).mono ?_); rintro e w2 ⟨rfl, rfl⟩)
          | (go_at_call 132; (with_reducible refine (cS.out _ (Below.refl _ _)).mono ?_); rintro e w3 ⟨rfl, hb3⟩)
          | (go_at_call 134; (with_reducible refine (cT.out _ hb3).mono ?_); rintro e w4 ⟨rfl, hb4⟩))
        have hz3 := hb3.size
        have hz4 := hb4.size
        have hbx0 := X.lt
        obtain ⟨w5, hW5⟩ : ∃ W, W = w4.alloc (.cells #[.int .i64 kd, .int .i64 nn, .string s0, .int .i64 a] 181) := ⟨_, rfl⟩
        rw [← hW5]
        have hb5 : Below w4.heap.size w4 w5 := by rw [hW5]; go_grown
        have T5 : RowAt w5 w4.heap.size 0 [.int .i64 kd, .int .i64 nn, .string s0, .int .i64 a] := by rw [hW5]; exact RowAt.box w4 #[_, _, _, _] _
        have h35 : Below wr.heap.size wr w5 := (hb3.trans (hb4.mono hz3)).trans (hb5.mono (by omega))
        have X5 := X.below h35
        have hz5 := h35.size
        clear hW5 x_0 x_1 x_2 x_3 hbx hb5 hb3 hb4
        obtain ⟨x_0, x_1, x_2, x_3⟩ := X5.row.box4
        have f_1 := X5.wr.frz 1 (by omega)
        have f_2 := X5.wr.frz 2 (by omega)
        have hbx := X5.lt
        obtain ⟨t5_0, t5_1, t5_2, t5_3⟩ := T5.box4; have hsT5 := World.block_lt_of_cell? _ _ t5_0; dsimp only at hsT5
        have hne : ¬ w4.heap.size = w.heap.size := by omega
        have hne2 : ∀ q, (Value.slice la m lc).ownBlock = some q → w.heap.size + 1 ≤ q := fun q hq => (hob.out q hq).1
        replace hne2 := Lib.hid hne2
        go_region_law ((refine step_append_lies _ (by rfl) _ _ _ (by rfl) (w.heap.size + 1) 181 iD _ 4 40 Tryz.underlying153 ID.out ID0.out ID1.out ID2.out rfl (by omega) _ (m) (rowsOf tokRow acc) (by rfl) (own_below hown0.out (h35.trans (Below.mono (by go_grown) hz5))) ⟨w5.heap.size, 0, none⟩ 1 1 [.int .i64 kd, .int .i64 nn, .string s0, .int .i64 a] (by rfl) (by rfl) (World.news_of_block (cs := #[.int .i64 kd, .int .i64 nn, .string s0, .int .i64 a]) (t := 181) (fr := (0, 0)) (heap_alloc_new' _ _ _ (by simp))) (by intro u hu; simp at hu; (first | (subst hu; rfl) | (rcases hu with rfl | rfl | rfl | rfl <;> rfl) | (rcases hu with rfl | rfl | rfl | rfl | rfl | rfl <;> rfl) | (rcases hu with rfl | rfl | rfl | rfl | rfl | rfl | rfl <;> rfl))) (by omega) (by unfold maxLen; omega) (by omega) (by simp; omega) _ rfl ?_; intro g2 cap2 w6 hown hgrow hat hlt2); have k6 := kept_of hgrow (w := wr) (h35.trans (Below.mono (by go_grown) hz5)); have X6 := X.kept k6 (fun e => by have := hne2.out _ e.symm; omega); obtain ⟨m_0, m_1, m_2, m_3⟩ := X6.row.box4; have mf_1 := X6.wr.frz 1 (by omega); have mf_2 := X6.wr.frz 2 (by omega); have mbx := X6.lt)
        all_goals
          have hB6 : Below w.heap.size w w6 := hw.trans ((below_grown2 (wr := wr) (base := w.heap.size + 1) hgrow (h35.trans (Below.mono (by go_grown) hz5)) (Below.refl _ wr) (by omega) hown0.out).mono (by omega))
          have hz6 : w5.heap.size + 1 ≤ w6.heap.size := by have := hgrow.size; simpa using this
          have O6 : Hid (OwnF 181 4 tokRow GTok.wf (w.heap.size + 1) (w6.setCell ⟨w.heap.size, 2, none⟩ (.slice (some ⟨g2, 0, none⟩) (m + 1) cap2)) (.slice (some ⟨g2, 0, none⟩) (m + 1) cap2) (acc ++ [⟨kd, nn, s0, a⟩])) := by
            refine OwnF.kept (S := (· = w.heap.size)) ⟨?_, fun y hy => ?_⟩ ((Kept.refl (· = w.heap.size) w6).set (p := ⟨w.heap.size, 2, none⟩) rfl _) (fun x hx e => ?_)
            · simp only [List.length_append, hm.out, List.length_singleton, rowsOf_append, rowsOf_one]
              exact hown
            · rcases List.mem_append.1 hy with h | h
              · exact hOK.out y h
              · simp only [List.mem_singleton] at h; rw [h]; exact htw
            · obtain rfl : g2 = x := by simpa [Value.ownBlock] using hx
              rcases hat with h | h
              · have := hne2.out g2 h; omega
              · simp at h; omega
          have X7 := X6.setList (.slice (some ⟨g2, 0, none⟩) (m + 1) cap2)
          have hB7 : Below w.heap.size w (w6.setCell ⟨w.heap.size, 2, none⟩ (.slice (some ⟨g2, 0, none⟩) (m + 1) cap2)) := hB6.setCell (p := ⟨w.heap.size, 2, none⟩) (Nat.le_refl _) _
          have e1 : (k : Int) + (n : Int) = ((k + n : Nat) : Int) := by omega
          clear hgrow hown hat hlt2 k6 m_0 m_1 m_2 m_3 mf_1 mf_2 mbx X6 t5_0 t5_1 t5_2 t5_3 hsT5 x_0 x_1 x_2 x_3 f_1 f_2 hbx
          generalize w6.setCell ⟨w.heap.size, 2, none⟩ (.slice (some ⟨g2, 0, none⟩) (m + 1) cap2) = w7 at *
          obtain ⟨x_0, x_1, x_2, x_3⟩ := X7.row.box4
          have f_1 := X7.wr.frz 1 (by omega)
          have hbx := X7.lt
          have X8 := X7.setAt (j := k + n)
          rw [← e1] at X8
          have hpl8 := X8.place
          replace e1 := Lib.hid e1
          go_wp2_with fail
          go_roundw
          case rel => exact ⟨k + n, g, _, acc ++ [⟨kd, nn, s0, a⟩], by omega, by simp only [List.length_append, hm.out, List.length_singleton]; omega, hl, X8, Lib.hid (O6.out.kept (S := (· = w.heap.size)) ((Kept.refl (· = w.heap.size) w7).set (p := ⟨w.heap.size, 1, none⟩) rfl _) (fun q hq e => by have := (own_base O6.out.1 q hq).1; omega)), hB7.setCell (p := ⟨w.heap.size, 1, none⟩) (Nat.le_refl _) _⟩
          case measure => rw [hpl8, hpl.out]; omega
    · obtain rfl := lexL_end hf.out (by omega)
      have d1 : decide ((k : Int) < (s.size : Int)) = false := decide_eq_false (by omega)
      replace hf := Lib.hid hf
      go_wp2_with fail
      go_returns
      exact ⟨lv, rfl, ⟨own_lo O.out.1 (by omega), O.out.2⟩, hw⟩
end Go.Proofs.YtaimekaagmcmnaaGreat

/- The program's flat: its walk. -/
namespace Go.Proofs.YtaimekaagmcmnaaGreat
open Go.RowKit
set_option linter.unusedVariables false
set_option linter.unusedSimpArgs false
attribute [local go_sem] Ext.cell

def FltPost (lo : Nat) (w : World) (v : Value) (pss : List (List Nat)) (xs : List GNode) (l : List GNode) (e : Ending) (w' : World) : Prop :=
  ∃ v' pss', e = .returned (.tuple #[v', .int .i64 (xs.length : Int)]) ∧ NStep lo w v pss w' v' pss' (xs ++ l)

set_option maxRecDepth 100000 in
set_option maxHeartbeats 16000000 in
theorem flat_c : ∀ (f : Nat) (t : ExT) (A : Nat → Prop) (v pv : Value) (pss : List (List Nat)) (xs : List GNode) (lo : Nat) (w : World), ExR f A w pv t → OwnN lo w v pss xs → lo ≤ w.heap.size → (∀ q, A q → q < w.heap.size) → (∀ q, A q → v.ownBlock ≠ some q) → xs.length + szE t ≤ 16777216 →
    Calls Tryz.prog 118 #[v, pv] w (FltPost lo w v pss xs (layE xs.length t))
  | 0, t, A, v, pv, pss, xs, lo, w, h, _, _, _, _, _ => absurd h (by simp [ExR])
  | f + 1, t, A, v, pv, pss, xs, lo, w, h, hO, hlo, hA, hAv, hsz => by
    have ih := flat_c f
    obtain ⟨b, ka, kc, qv, bs, rfl, hAb, hwf, hps, hr, hq, hqb, kl, km, hk⟩ := h
    obtain ⟨kd, at_, nn, s, ks, ps⟩ := t
    simp only [ExT.kind, ExT.at_, ExT.n, ExT.s, ExT.kids, ExT.pats] at *
    obtain ⟨hps1, hps2⟩ := hps
    obtain ⟨qa, qc, rfl⟩ := hq.form
    have hlay := layE_mk xs.length kd at_ nn s ks ps
    have hszE := szE_mk kd at_ nn s ks ps
    rw [hszE] at hsz
    have cP := fun W (hW : Below w.heap.size w W) => copyPats_o ps hps1 hps2 _ 0 W ((hq.sl GPat.ok (fun _ _ => Nat.zero_le _)).below GPat.good hW)
    obtain ⟨m, hm⟩ : ∃ m, m = ks.length := ⟨_, rfl⟩
    obtain ⟨qm, hqm⟩ : ∃ m, m = ps.length := ⟨_, rfl⟩
    rw [← hm] at kl hk hr
    rw [← hqm] at hr cP
    obtain ⟨va, vc, rfl⟩ := hO.form
    obtain ⟨rows, hown0, hrows⟩ := hO.grow
    have hml : m ≤ szEs ks := by rw [hm]; exact len_szEs ks
    have hpost : ∀ n, n = xs.length → ∀ e W, (∃ v' pss', e = .returned (.tuple #[v', .int .i64 (n : Int)]) ∧ NStep lo w (.slice va n vc) pss W v' pss' (xs ++ (⟨kd, at_, nn, s, plE (n + 1) ks, ps⟩ :: layEs (n + 1) ks))) →
        FltPost lo w (.slice va n vc) pss xs (layE n (.mk kd at_ nn s ks ps)) e W := fun n hn e W h => by subst hn; rw [hlay]; exact h
    have hwfI : I64 kd ∧ I64 at_ ∧ I64 nn ∧ StrOk s := hwf
    obtain ⟨n, hn⟩ : ∃ n, n = xs.length := ⟨_, rfl⟩
    rw [← hn] at hown0 hO hsz hAv ⊢
    replace hpost := hpost n hn
    have hpu := fun w1 w2 (pv : Value) (bs : List Nat) (cap g : Nat) (cs : Array Value) (T : TypeId) => OwnN.push (w1 := w1) (w2 := w2) (pv := pv) (bs := bs) (cap := cap) (g := g) (cs := cs) (T := T) (ps := ps) (kd := kd) (at_ := at_) (nn := nn) (s := s) hO hlo hown0 hrows hn
    generalize FltPost lo w (.slice va n vc) pss xs (layE n (.mk kd at_ nn s ks ps)) = P at *
    obtain ⟨r_0, r_1, r_2, r_3, r_4, r_5⟩ := hr.box6
    have hbl := World.block_lt_of_cell? _ _ r_0; dsimp only at hbl
    replace hm := Lib.hid hm; replace hn := Lib.hid hn; replace hlay := Lib.hid hlay; replace hszE := Lib.hid hszE; replace ih := Lib.hid ih; replace hk := Lib.hid hk; replace hqm := Lib.hid hqm
    replace hown0 := Lib.hid hown0; replace hO := Lib.hid hO; replace hA := Lib.hid hA; replace hAv := Lib.hid hAv; replace hpost := Lib.hid hpost; replace hpu := Lib.hid hpu; replace cP := Lib.hid cP
    clear hps2 hq hqb hrows
    obtain ⟨iD, hi0, hz0, hz1, hz2⟩ := info_parts info_Node; have ID := Lib.hid hi0; have ID0 := Lib.hid hz0; have ID1 := Lib.hid hz1; have ID2 := Lib.hid hz2; clear hi0 hz0 hz1 hz2
    obtain ⟨iJ, hi0, hz0, hz1, hz2⟩ := info_parts info_intE; have IJ := Lib.hid hi0; have IJ0 := Lib.hid hz0; have IJ1 := Lib.hid hz1; have IJ2 := Lib.hid hz2; clear hi0 hz0 hz1 hz2
    go_enter Tryz.func118, Tryz.ntmps118
    go_upto_region 2 with fail
    go_cut [0] (fun sx wx => ∃ g cap pss1, sx = .slice (some ⟨g, 0, none⟩) (n + 1) cap ∧ NStep lo w (.slice va n vc) pss wx sx pss1 (xs ++ [⟨kd, at_, nn, s, [], ps⟩]))
    case first =>
      go_region_held3 (fun w' => w'.cell? ⟨b, 0, none⟩ = some (.int .i64 kd) ∧ w'.cell? ⟨b, 1, none⟩ = some (.int .i64 at_) ∧ w'.cell? ⟨b, 2, none⟩ = some (.int .i64 nn) ∧ w'.cell? ⟨b, 3, none⟩ = some (.string s) ∧ w'.cell? ⟨b, 4, none⟩ = some (.slice ka m kc) ∧ w'.cell? ⟨b, 5, none⟩ = some (.slice qa qm qc))
        (first | exact ⟨r_0, r_1, r_2, r_3, r_4, r_5⟩ | exact ⟨t_0, t_1, t_2, t_3, t_4, t_5⟩ | exact ⟨u_0, u_1, u_2, u_3, u_4, u_5⟩ | go_keep)
        (first
          | (go_at_call 120; (with_reducible refine (cP.out _ (by go_grown)).mono ?_); rintro e w1 ⟨pv1, bs1, rfl, SP, nP, fP, hbP⟩; obtain ⟨a1, k1, rfl⟩ := SP.form; rw [← hqm.out] at SP ⊢; have hb1 : Below w.heap.size w w1 := Below.trans (by go_grown) hbP; obtain ⟨t_0, t_1, t_2, t_3, t_4, t_5⟩ := (hr.below hb1).box6; have hbl' : b < w1.heap.size := World.block_lt_of_cell? _ _ t_0; have hz1 := hb1.size; replace SP := Lib.hid SP; replace hb1 := Lib.hid hb1; clear hbP)
          | ((refine step_append_lies _ (by rfl) _ _ _ (by rfl) (lo) 74 iD _ 6 88 Tryz.underlying30 ID.out ID0.out ID1.out ID2.out rfl (by omega) _ (n) (rows.flatten) (by rfl) (own_below hown0.out (hb1.out.trans (Below.mono (by go_grown) hb1.out.size))) ⟨w1.heap.size, 0, none⟩ 1 1 [.int .i64 kd, .int .i64 at_, .int .i64 nn, .string s, .slice none 0 0, .slice a1 qm k1] (by rfl) (by rfl) (World.news_of_block (cs := #[.int .i64 kd, .int .i64 at_, .int .i64 nn, .string s, .slice none 0 0, .slice a1 qm k1]) (t := 74) (fr := (0, 0)) (heap_alloc_new' _ _ _ (by simp))) (by intro u hu; simp at hu; (first | (subst hu; rfl) | (rcases hu with rfl | rfl | rfl | rfl <;> rfl) | (rcases hu with rfl | rfl | rfl | rfl | rfl | rfl <;> rfl) | (rcases hu with rfl | rfl | rfl | rfl | rfl | rfl | rfl <;> rfl))) (by omega) (by unfold maxLen; omega) (by omega) (by simp; omega) _ rfl ?_; intro g cap w2 hown hgrow hat hlt2); have k6 := kept_of hgrow (w := w) (hb1.out.trans (Below.mono (by go_grown) hb1.out.size)); obtain ⟨u_0, u_1, u_2, u_3, u_4, u_5⟩ := (hr.kept k6 (fun e => hAv.out b hAb e.symm)).box6))
      all_goals go_wp2_with fail
      all_goals (go_meet; exact ⟨g, cap, _, rfl, hpu.out _ _ _ _ _ _ _ _ hb1.out hwfI SP.out nP fP hgrow hown hat⟩)
    obtain ⟨w2, hw2⟩ : ∃ W, W = wc := ⟨_, rfl⟩
    subst hw2
    obtain ⟨g, cap, pss1, rfl, NS⟩ := hcut
    have hr2 := hr.kept NS.kept (fun h => hAv.out b hAb h)
    have hz2 := NS.below.size
    clear r_0 r_1 r_2 r_3 r_4 r_5
    obtain ⟨r_0, r_1, r_2, r_3, r_4, r_5⟩ := hr2.box6
    have hbl2 := World.block_lt_of_cell? _ _ r_0; dsimp only at hbl2
    replace NS := Lib.hid NS
    go_upto_region 4 with fail
    obtain ⟨w3, hW3⟩ : ∃ W, W = w2.alloc (.cells #[] 3) := ⟨_, rfl⟩
    rw [← hW3]
    have hb3 : Below w2.heap.size w2 w3 := by rw [hW3]; go_grown
    have hz3 : w2.heap.size < w3.heap.size := by rw [hW3]; simp
    have OK3 : OwnF 3 1 intRow I64 w2.heap.size w3 (.slice (some ⟨w2.heap.size, 0, none⟩) 0 0) [] := ⟨own_empty_at (by rw [hW3]; exact heap_alloc_new' _ _ _ rfl) (Nat.le_refl _), fun x hx => by cases hx⟩
    have NS3 : NStep lo w (.slice va n vc) pss w3 (.slice (some ⟨g, 0, none⟩) (n + 1) cap) pss1 (xs ++ [⟨kd, at_, nn, s, [], ps⟩]) :=
      ⟨NS.out.own.below hb3, NS.out.below.trans (hb3.mono (by omega)), NS.out.kept.trans hz2 (Kept.below hb3), NS.out.blk, NS.out.new⟩
    have hD3 : ∀ b, (Value.slice (some ⟨w2.heap.size, 0, none⟩) 0 0).ownBlock = some b → b ∉ fpO (.slice (some ⟨g, 0, none⟩) (n + 1) cap) pss1 := fun b hb h => by
      obtain rfl : w2.heap.size = b := by simpa [Value.ownBlock] using hb
      have := NS.out.own.lt _ h
      omega
    have hr3 := hr2.below hb3
    clear r_0 r_1 r_2 r_3 r_4 r_5 NS hW3
    obtain ⟨r_0, r_1, r_2, r_3, r_4, r_5⟩ := hr3.box6
    obtain ⟨bK, hbK⟩ : ∃ x, x = w2.heap.size := ⟨_, rfl⟩
    rw [← hbK] at OK3 hD3 hz3 hz2 ⊢
    clear hr2 hbl2 hb3
    replace hbK := Lib.hid hbK
    replace NS3 := Lib.hid NS3; replace OK3 := Lib.hid OK3; replace hD3 := Lib.hid hD3
    go_wp2_with fail
    go_loopw [0, 7, 45] (fun vv kk ii wr => ∃ (j : Nat) (v kv : Value) (qss : List (List Nat)), j ≤ m ∧ vv = v ∧ kk = kv ∧ ii = .int .i64 j ∧
        Hid (NStep lo w (.slice va n vc) pss wr v qss (xs ++ (⟨kd, at_, nn, s, [], ps⟩ :: layEs (n + 1) (ks.take j)))) ∧
        Hid (OwnF 3 1 intRow I64 bK wr kv (plE (n + 1) (ks.take j))) ∧ Hid (∀ b, kv.ownBlock = some b → b ∉ fpO v qss) ∧ bK < wr.heap.size) (fun _ _ ii _ => m - (intOf ii).toNat)
    case atStart => exact ⟨0, _, _, pss1, by omega, rfl, rfl, rfl, by simpa [layEs] using NS3, OK3, hD3, hz3⟩
    case round =>
      clear NS3 OK3 hD3 hr3 r_0 r_1 r_2 r_3 r_4 r_5 hz3
      obtain ⟨j, v, kv, qss, hj, rfl, rfl, rfl, NS, OK, hD, hbKr⟩ := hrel
      obtain ⟨va', vc', rfl⟩ := NS.out.own.form
      obtain ⟨ba, bc, rfl⟩ := OK.out.form
      have hlk : (plE (n + 1) (ks.take j)).length = j := by rw [plE_len, List.length_take]; have := hm.out; omega
      obtain ⟨ys, hys⟩ : ∃ ys, ys = xs ++ (⟨kd, at_, nn, s, [], ps⟩ :: layEs (n + 1) (ks.take j)) := ⟨_, rfl⟩
      have hql : ys.length = n + 1 + szEs (ks.take j) := by
        rw [hys, List.length_append, List.length_cons, layEs_len, ← hn.out]; omega
      have hle := szEs_take ks j
      have hzr := NS.out.below.size
      rw [← hys] at NS hD ⊢
      rw [hlk] at OK hD ⊢
      have hltA : ∀ q, A q → q < wr.heap.size := fun q hq => by have := hA.out q hq; omega
      have hAv' : ∀ q, A q → (Value.slice va' ys.length vc').ownBlock ≠ some q := fun q hq h => by
        rcases NS.out.blk q h with h1 | h1
        · exact hAv.out q hq h1
        · have := hA.out q hq; omega
      by_cases hjm : j < m
      · obtain ⟨g1, o1, rfl, hA1, hkk⟩ := hk.out (by omega)
        obtain ⟨k, hkj⟩ : ∃ k, ks[j]? = some k := ⟨_, List.getElem?_eq_getElem (by have := hm.out; omega)⟩
        obtain ⟨q, hq, hP⟩ := hkk j k hkj
        have htk := take_snoc' hkj
        have hsz1 : szEs (ks.take j) + szE k ≤ szEs ks := by
          have h1 := szEs_take ks (j + 1)
          rw [htk, szEs_append] at h1
          simpa [szEs] using h1
        have hK : Kept (fun x => (Value.slice va n vc).ownBlock = some x) w wr := NS.out.kept
        have e_0 : wr.cell? ⟨g1, o1 + j, none⟩ = some q := by rw [World.cell?_of_block (w := w) (a := ⟨g1, o1 + j, none⟩) (hK g1 (World.block_lt_of_cell? _ _ hq) (fun h => hAv.out g1 hA1 h))]; exact hq
        have hP' := hP.kept hK (fun x hx h => hAv.out x hx h)
        obtain ⟨qb, rfl⟩ := hP.form
        have hc := ih.out k _ _ _ _ _ _ wr hP' NS.out.own (by omega) hltA hAv' (by omega)
        have hbg1 : g1 < wr.heap.size := World.block_lt_of_cell? _ _ e_0
        replace hc := Lib.hid hc; replace hkj := Lib.hid hkj; replace hlk := Lib.hid hlk; replace hltA := Lib.hid hltA; replace hAv' := Lib.hid hAv'
        clear hkk hP hP' hK
        generalize hnl : ys.length = nl at *
        have hnl2 : nl ≤ 16777216 := by omega
        replace hnl := Lib.hid hnl; replace hql := Lib.hid hql; replace htk := Lib.hid htk; replace hys := Lib.hid hys
        go_upto_region 8 with (go_at_call 118; (with_reducible refine (hc.out).mono ?_); rintro e w7 ⟨v7, qs7, he, N7⟩; rw [hnl.out] at he; subst he)
        have hz7 := N7.below.size
        have N70 := NS.out.trans N7
        have hob := own_base OK.out.1
        have OK7 := OK.out.kept N7.kept (fun x hx h => hD.out x hx (mem_fpO.2 (.inl h)))
        have hD7 : ∀ b, (Value.slice ba j bc).ownBlock = some b → b ∉ fpO v7 qs7 := fun b hb h => by
          rcases N7.new b h with h1 | h1
          · exact hD.out b hb h1
          · have := (hob b hb).2; omega
        have hownK : w7.ownsRow bK 3 1 (.slice ba j bc) j (rowsOf intRow (plE (n + 1) (ks.take j))) := by have h := OK7.1; rw [hlk.out] at h; exact h
        have hobK7 := own_base hownK
        have hn64 : I64 ((nl : Nat) : Int) := by constructor <;> omega
        have hOK2 := OK.out.2
        have hbK7 : bK ≤ w7.heap.size := by omega
        replace hownK := Lib.hid hownK; replace N70 := Lib.hid N70; replace hD7 := Lib.hid hD7; replace hobK7 := Lib.hid hobK7; replace hOK2 := Lib.hid hOK2; replace hn64 := Lib.hid hn64
        clear N7 OK7 NS OK hD hc e_0 hob
        go_upto_region 10 with (at_builtin; refine wpList_append_lies _ rfl _ _ _ rfl (bK) 3 iJ _ 1 8 Tryz.underlying59 IJ.out IJ0.out IJ1.out IJ2.out rfl (by omega) (.slice ba j bc) (j) (rowsOf intRow (plE (n + 1) (ks.take j))) rfl (own_below hownK.out (by go_grown)) ⟨w7.heap.size, 0, none⟩ 1 1 [.int .i64 (nl : Int)] rfl rfl (World.news_of_block (cs := #[.int .i64 (nl : Int)]) (t := 3) (fr := (0, 0)) (heap_alloc_new' _ _ _ (by simp))) (by intro u hu; simp at hu; (first | (subst hu; rfl) | (rcases hu with rfl | rfl | rfl | rfl <;> rfl) | (rcases hu with rfl | rfl | rfl | rfl | rfl | rfl <;> rfl) | (rcases hu with rfl | rfl | rfl | rfl | rfl | rfl | rfl <;> rfl) | (rcases hu with rfl | rfl | rfl | rfl | rfl | rfl | rfl | rfl | rfl <;> rfl))) (by omega) (by unfold maxLen; omega) (by omega) (by simp; omega) _ rfl ?_; intro g2 cap2 w8 hown hgrow hat hlt2)
        have k8 : Kept (fun k => some k = (Value.slice ba j bc).ownBlock) w7 w8 := kept_of hgrow (w := w7) (by go_grown)
        have hz8 : w7.heap.size + 1 ≤ w8.heap.size := by have := hgrow.size; simpa using this
        have hpl : plE (n + 1) (ks.take (j + 1)) = plE (n + 1) (ks.take j) ++ [(nl : Int)] := by
          rw [htk.out, plE_append, hql.out]; rfl
        have hly : ys ++ layE nl k = xs ++ (⟨kd, at_, nn, s, [], ps⟩ :: layEs (n + 1) (ks.take (j + 1))) := by
          rw [htk.out, layEs_append, hys.out, hql.out]
          simp [layEs]
        have OK8 : Hid (OwnF 3 1 intRow I64 bK w8 (.slice (some ⟨g2, 0, none⟩) (j + 1) cap2) (plE (n + 1) (ks.take (j + 1)))) := by
          refine ⟨?_, fun y hy => ?_⟩
          · rw [hpl]
            simp only [List.length_append, hlk.out, List.length_singleton, rowsOf_append, rowsOf_one]
            exact hown
          · rw [hpl] at hy
            rcases List.mem_append.1 hy with h | h
            · exact hOK2.out y h
            · simp only [List.mem_singleton] at h; rw [h]; exact hn64.out
        have hkb : ∀ b, some b = (Value.slice ba j bc).ownBlock → w.heap.size ≤ b := fun b h => by have := (hobK7.out b h.symm).1; omega
        have NS8 : Hid (NStep lo w (.slice va n vc) pss w8 v7 qs7 (xs ++ (⟨kd, at_, nn, s, [], ps⟩ :: layEs (n + 1) (ks.take (j + 1))))) := by
          have h1 := N70.out
          rw [hly] at h1
          refine ⟨h1.own.kept k8 (fun b hb h => hD7.out b h.symm hb), below_grown2 (wr := w7) (w := w) (base := lo) hgrow (by go_grown) h1.below (by omega) (own_lo hownK.out (by omega)), fun q h2 h3 => (k8 q (by have := h1.below.size; omega) fun h4 => by have := hkb q h4; omega).trans (h1.kept q h2 h3), h1.blk, h1.new⟩
        have hD8 : Hid (∀ b, (Value.slice (some ⟨g2, 0, none⟩) (j + 1) cap2).ownBlock = some b → b ∉ fpO v7 qs7) := fun b hb h => by
          obtain rfl : g2 = b := by simpa [Value.ownBlock] using hb
          rcases hat with h1 | h1
          · exact hD7.out g2 h1 h
          · have := N70.out.own.lt g2 h
            simp at h1; omega
        clear hgrow hown hat hlt2 k8 hownK hpl hly hkb
        go_wp2_with fail
        go_roundw
        case rel => exact ⟨j + 1, v7, _, qs7, by omega, rfl, rfl, by go_num, NS8, OK8, hD8, by omega⟩
        case measure => simp [intOf]; omega
      · obtain rfl : j = m := by omega
        have hfull : ks.take j = ks := List.take_of_length_le (by have := hm.out; omega)
        rw [hfull] at hys OK hlk hql
        clear hfull hk
        have hown := NS.out.own
        obtain ⟨rows', hr1, hr2⟩ := hown.grow
        obtain ⟨gv, cv, hv, -⟩ := own_cells hr1 (by omega)
        obtain ⟨rfl, rfl⟩ : va' = some ⟨gv, 0, none⟩ ∧ vc' = cv := by injection hv with e1 e2 e3; exact ⟨e1, e3⟩
        clear hv hr1 hr2
        obtain ⟨kb, hkS, hkN, hkB⟩ := OK.out.slO2 flatInt
        have hob := own_base OK.out.1
        have hnx : ys[n]? = some ⟨kd, at_, nn, s, [], ps⟩ := by
          rw [hys, hn.out, List.getElem?_append_right (Nat.le_refl _), Nat.sub_self]; rfl
        obtain ⟨⟨z3, z_3, y_3⟩, pssF, ownF, newF⟩ := hown.setKids rfl hnx hkS hkN (fun b hb => by have := (hob b (hkB b hb)).1; omega) (fun b hb => hD.out b (hkB b hb))
        have hset : ys.set n ⟨kd, at_, nn, s, plE (n + 1) ks, ps⟩ = xs ++ (⟨kd, at_, nn, s, plE (n + 1) ks, ps⟩ :: layEs (n + 1) ks) := by
          rw [hys, hn.out, List.set_append_right _ _ (Nat.le_refl _), Nat.sub_self]; rfl
        dsimp only at ownF
        rw [hset] at ownF
        obtain ⟨W, hWe⟩ : ∃ W, W = wr.setCell ⟨gv, n * 6 + 4, none⟩ (.slice ba j bc) := ⟨_, rfl⟩
        rw [← hWe] at ownF
        have hgl := hown.lo gv (mem_fpO.2 (.inl rfl))
        have hfin : P (.returned (.tuple #[.slice (some ⟨gv, 0, none⟩) ys.length vc', .int .i64 (n : Int)])) W := by
          refine hpost.out _ _ ⟨_, pssF, rfl, ownF, ?_, ?_, NS.out.blk, fun b hb => ?_⟩
          · rw [hWe]; exact NS.out.below.setCell (p := ⟨gv, n * 6 + 4, none⟩) hgl _
          · have k1 : Kept (· = gv) wr W := by rw [hWe]; exact Kept.set (S := (· = gv)) (p := ⟨gv, n * 6 + 4, none⟩) (Kept.refl _ _) rfl _
            refine fun x h1 h2 => (k1 x (by omega) fun e => ?_).trans (NS.out.kept x h1 h2)
            subst e
            rcases NS.out.blk x rfl with h3 | h3
            · exact h2 h3
            · omega
          · rcases newF b hb with h1 | h1
            · exact NS.out.new b h1
            · have := (hob b (hkB b h1)).1; exact .inr (by omega)
        have hny : n < ys.length := by omega
        replace hfin := Lib.hid hfin; replace hql := Lib.hid hql
        clear ownF newF NS OK hkS hkB hkN hown hob hD hset hnx hgl
        generalize hnl : ys.length = nl at *
        replace hnl := Lib.hid hnl
        go_wp2_with fail
        rw [← hWe]
        exact hfin.out
end Go.Proofs.YtaimekaagmcmnaaGreat

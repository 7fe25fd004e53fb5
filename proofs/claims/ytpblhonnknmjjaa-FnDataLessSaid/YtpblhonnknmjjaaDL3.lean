/- DrawDataLess. -/
import Derived.Test.YtpblhonnknmjjaaDL2
namespace Go.Proofs.Ytpblhonnknmjjaa
open Go.RowKit
set_option linter.unusedVariables false
set_option linter.unusedSimpArgs false
attribute [local go_sem] Ext.cell

def SmD (l : List GDNode) : Prop := 1 ≤ l.length ∧ l.length ≤ 200 ∧ ∀ x ∈ l, SmN x
theorem SmD.bulk {l : List GDNode} (h : SmD l) : (GData.mk l).bulk ≤ 1048576 := by
  have h1 : ∀ l : List GDNode, (∀ x ∈ l, SmN x) → bulkS GDNode.bulk l ≤ (l.length : Int) * 20 := by
    intro l
    induction l with
    | nil => intro _; simp [bulkS]
    | cons c l ih =>
      intro hl
      have h2 := ih (fun c hc => hl c (List.mem_cons_of_mem _ hc))
      obtain ⟨h3, h4⟩ := hl c (by simp)
      have h5 : GDNode.bulk c ≤ 19 := by
        unfold GDNode.bulk
        omega
      simp only [bulkS, List.length_cons, List.map_cons, List.sum_cons] at h2 ⊢
      omega
  have h2 := h1 l h.2.2
  have := h.2.1
  show bulkS GDNode.bulk l ≤ _
  omega
def LessPost (w : World) (e : Ending) (w' : World) : Prop :=
  ∃ (u v : Value) (la lb : List GDNode), e = .returned (.tuple #[.agg #[u], .agg #[v]]) ∧ Sl GDNode.R 4 w.heap.size w' u la ∧ Sl GDNode.R 4 w.heap.size w' v lb ∧ SmD la ∧ SmD lb ∧ Below w.heap.size w w'
theorem dsl_kept {B b : Nat} {w w' : World} {u : Value} {l : List GDNode} (h : Sl GDNode.R 4 B w u l) (hk : Kept (· = b) w w') (hb : b < B) : Sl GDNode.R 4 B w' u l :=
  h.agree GDNode.good fun k h1 h2 => hk k h2 (by omega)
set_option maxRecDepth 100000 in
set_option maxHeartbeats 16000000 in
theorem drawDataLess_c (w : World) (u : Value) (bs : List UInt8) (hu : Sl ByteR 1 0 w u bs) (hlen : bs.length ≤ 1048576) :
    Calls Try.prog 6 #[u] w (LessPost w) := by
  have Hu := hu
  obtain ⟨ua, uc, rfl⟩ := hu.form
  clear hu
  go_enter Try.func6, Try.ntmps6
  go_upto_region 1 with fail
  have E : RowAt (w.alloc (.cells #[.slice none 0 0] 25)) (w.heap.size) 0 [.slice none 0 0] := RowAt.box w #[.slice none 0 0] 25
  have EW : Wr (w.alloc (.cells #[.slice none 0 0] 25)) (w.heap.size) 0 1 := Wr.box w #[.slice none 0 0] 25
  have E := E.below (show Below (w.alloc (.cells #[.slice none 0 0] 25)).heap.size (w.alloc (.cells #[.slice none 0 0] 25)) ((w.alloc (.cells #[.slice none 0 0] 25)).alloc (.cells #[.slice none 0 0] 25)) by go_grown)
  have EW := EW.below (show Below (w.alloc (.cells #[.slice none 0 0] 25)).heap.size (w.alloc (.cells #[.slice none 0 0] 25)) ((w.alloc (.cells #[.slice none 0 0] 25)).alloc (.cells #[.slice none 0 0] 25)) by go_grown)
  have F : RowAt ((w.alloc (.cells #[.slice none 0 0] 25)).alloc (.cells #[.slice none 0 0] 25)) (w.heap.size + 1) 0 [.slice none 0 0] := by have h := RowAt.box (w.alloc (.cells #[.slice none 0 0] 25)) #[.slice none 0 0] 25; simp only [World.size_alloc] at h; exact h
  have FW : Wr ((w.alloc (.cells #[.slice none 0 0] 25)).alloc (.cells #[.slice none 0 0] 25)) (w.heap.size + 1) 0 1 := by have h := Wr.box (w.alloc (.cells #[.slice none 0 0] 25)) #[.slice none 0 0] 25; simp only [World.size_alloc] at h; exact h
  have hw : Below w.heap.size w ((w.alloc (.cells #[.slice none 0 0] 25)).alloc (.cells #[.slice none 0 0] 25)) := by go_grown
  generalize ((w.alloc (.cells #[.slice none 0 0] 25)).alloc (.cells #[.slice none 0 0] 25)) = w0 at *
  have hs0 := hw.size
  have hsE := World.block_lt_of_cell? _ _ E.box1; dsimp only at hsE
  have hsF := World.block_lt_of_cell? _ _ F.box1; dsimp only at hsF
  replace Hu := Lib.hid Hu
  go_upto_region 2 with (go_at_call 19; (with_reducible refine (l01New_c w w0 _ bs Hu.out hlen hw).mono ?_); rintro e w1 ⟨b, rfl, hb0, C1, hb1⟩)
  have hbl := C1.lt
  have hz1 := hb1.size
  have K01 : Kept (· = b) w0 w1 := Kept.below hb1
  go_upto_region 3 with (go_at_call 20; (with_reducible refine (l21Data_c w _ b C1).mono ?_); rintro e w2 ⟨va, la, rfl, SA, a1, a2, a3, D2⟩; obtain ⟨xa, ca, rfl⟩ := SA.form)
  obtain ⟨w3, hW3⟩ : ∃ W, W = w2.alloc (.cells #[.slice xa la.length ca] 25) := ⟨_, rfl⟩
  rw [← hW3]
  have hb3 : Below w2.heap.size w2 w3 := by rw [hW3]; go_grown
  have RA : RowAt w3 w2.heap.size 0 [.slice xa la.length ca] := by rw [hW3]; exact RowAt.box w2 #[_] _
  have D3 := D2.after hb3
  have SA3 := SA.below GDNode.good hb3
  have hz2 := D2.size
  have hz3 : w2.heap.size < w3.heap.size := World.block_lt_of_cell? _ _ RA.box1
  obtain ⟨bA, hbA⟩ : ∃ x, x = w2.heap.size := ⟨_, rfl⟩
  rw [← hbA] at RA hz3 ⊢
  have hbA2 : w1.heap.size ≤ bA := by omega
  clear hW3 hb3 D2 SA hbA
  go_upto_region 4 with (go_at_call 20; (with_reducible refine (l21Data_c w _ b D3.cur).mono ?_); rintro e w4 ⟨vb, lb, rfl, SB, b1, b2, b3, D4⟩; obtain ⟨xb, cb, rfl⟩ := SB.form)
  obtain ⟨w5, hW5⟩ : ∃ W, W = w4.alloc (.cells #[.slice xb lb.length cb] 25) := ⟨_, rfl⟩
  rw [← hW5]
  have hb5 : Below w4.heap.size w4 w5 := by rw [hW5]; go_grown
  have RB : RowAt w5 w4.heap.size 0 [.slice xb lb.length cb] := by rw [hW5]; exact RowAt.box w4 #[_] _
  have WB : Wr w5 w4.heap.size 0 1 := by rw [hW5]; exact Wr.box w4 #[_] _
  have D5 := D4.after hb5
  have SB5 := SB.below GDNode.good hb5
  have SA5 := dsl_kept SA3 D5.kept (by omega)
  have RA5 := RA.kept D5.kept (by omega)
  have hz4 := D4.size
  have hz5 : w4.heap.size < w5.heap.size := World.block_lt_of_cell? _ _ RB.box1
  obtain ⟨bB, hbB⟩ : ∃ x, x = w4.heap.size := ⟨_, rfl⟩
  rw [← hbB] at RB WB hz5 ⊢
  have hbB2 : w3.heap.size ≤ bB := by omega
  have D35 := D3.trans D5
  have K35 := D5.kept
  clear hW5 hb5 D4 SB hbB RA D3 D5
  have SB5 : Sl GDNode.R 4 w1.heap.size w5 (.slice xb lb.length cb) lb := SB5.mono GDNode.good (by omega)
  go_upto_if 15 with (go_at_call 21; (with_reducible refine (l01Below_c w _ b 4 (by omega) D35.cur).mono ?_); rintro e w6 ⟨x, rfl, hx0, hx1, hx2, D6⟩)
  have hs6 := D6.size
  have SA6 := dsl_kept SA5 D6.kept (by omega)
  have SB6 := dsl_kept SB5 D6.kept (by omega)
  have RA6 := RA5.kept D6.kept (by omega)
  have RB6 := RB.kept D6.kept (by omega)
  have WB6 := WB.kept D6.kept (by omega)
  have K06 : Kept (· = b) w0 w6 := K01.trans hz1 ((D35.trans D6).kept)
  have E6 := E.kept K06 (by omega); have EW6 := EW.kept K06 (by omega)
  have F6 := F.kept K06 (by omega); have FW6 := FW.kept K06 (by omega)
  have hB6 : Below w.heap.size w w6 := D6.cur.below
  have n6 : ¬ w.heap.size = bA := by omega
  have n7 : ¬ w.heap.size + 1 = bA := by omega
  have n8 : ¬ w.heap.size = bB := by omega
  have n9 : ¬ w.heap.size + 1 = bB := by omega
  have n1 : ¬ bA = bB := by omega
  have n1' : ¬ bB = bA := by omega
  have n2 : ¬ bA = w.heap.size := by omega
  have n3 : ¬ bA = w.heap.size + 1 := by omega
  have n4 : ¬ bB = w.heap.size := by omega
  have n5 : ¬ bB = w.heap.size + 1 := by omega
  have hfin : ∀ (W W' : World) (xx : Option Addr) (cc : Nat) (ll : List GDNode), (W' = ((W.setCell ⟨w.heap.size, 0, none⟩ (.slice xa la.length ca)).setCell ⟨w.heap.size + 1, 0, none⟩ (.slice xx ll.length cc)).drew ∨ W' = ((W.setCell ⟨w.heap.size + 1, 0, none⟩ (.slice xx ll.length cc)).setCell ⟨w.heap.size, 0, none⟩ (.slice xa la.length ca)).drew) →
      Sl GDNode.R 4 w1.heap.size W (.slice xa la.length ca) la → Sl GDNode.R 4 w1.heap.size W (.slice xx ll.length cc) ll → SmD ll → Below w.heap.size w W → RowAt W w.heap.size 0 [.slice none 0 0] → RowAt W (w.heap.size + 1) 0 [.slice none 0 0] →
      LessPost w (.returned (.tuple #[.agg #[.slice xa la.length ca], .agg #[.slice xx ll.length cc]])) W' ∧ W'.cell? ⟨w.heap.size, 0, none⟩ = some (.slice xa la.length ca) ∧ W'.cell? ⟨w.heap.size + 1, 0, none⟩ = some (.slice xx ll.length cc) := fun W W' xx cc ll hW h1 h2 h3 h4 h5 h6 => by
    have ag : Agree w1.heap.size W W' := by
      rcases hW with rfl | rfl
      · exact fun k h1 h2 => Agree.setCell (Agree.setCell (Agree.refl w1.heap.size W) (p := ⟨w.heap.size, 0, none⟩) (by show w.heap.size < _; omega) _) (p := ⟨w.heap.size + 1, 0, none⟩) (by show w.heap.size + 1 < _; omega) _ k h1 h2
      · exact fun k h1 h2 => Agree.setCell (Agree.setCell (Agree.refl w1.heap.size W) (p := ⟨w.heap.size + 1, 0, none⟩) (by show w.heap.size + 1 < _; omega) _) (p := ⟨w.heap.size, 0, none⟩) (by show w.heap.size < _; omega) _ k h1 h2
    have bl : Below w.heap.size w W' := by
      rcases hW with rfl | rfl
      · exact ((h4.setCell (p := ⟨w.heap.size, 0, none⟩) (Nat.le_refl _) _).setCell (p := ⟨w.heap.size + 1, 0, none⟩) (by show w.heap.size ≤ w.heap.size + 1; omega) _).drew
      · exact ((h4.setCell (p := ⟨w.heap.size + 1, 0, none⟩) (by show w.heap.size ≤ w.heap.size + 1; omega) _).setCell (p := ⟨w.heap.size, 0, none⟩) (Nat.le_refl _) _).drew
    refine ⟨⟨_, _, la, ll, rfl, (h1.agree GDNode.good ag).mono GDNode.good (by omega), (h2.agree GDNode.good ag).mono GDNode.good (by omega), ⟨a1, a2, a3⟩, h3, bl⟩, ?_, ?_⟩
    · rcases hW with rfl | rfl
      · exact ((h5.putAt (j := 0) (by simp) _).set_other (by omega) _).box1
      · exact ((h5.set_other (by omega) _).putAt (j := 0) (by simp) _).box1
    · rcases hW with rfl | rfl
      · exact ((h6.set_other (by omega) _).putAt (j := 0) (by simp) _).box1
      · exact ((h6.putAt (j := 0) (by simp) _).set_other (by omega) _).box1
  replace hfin := Lib.hid hfin
  clear E EW F FW RA5 RB WB SA5 SB5
  by_cases hx : x = 0
  · subst hx
    obtain ⟨w7, hW7⟩ : ∃ W, W = w6.setCell ⟨bB, 0, none⟩ (.slice xa la.length ca) := ⟨_, rfl⟩
    have RA7 : RowAt w7 bA 0 [.slice xa la.length ca] := by rw [hW7]; exact RA6.set_other n1 _
    have RB7 : RowAt w7 bB 0 [.slice xa la.length ca] := by rw [hW7]; exact RB6.putAt (j := 0) (by simp) _
    have k7 : Kept (· = bB) w6 w7 := by rw [hW7]; exact Kept.set (S := (· = bB)) (p := ⟨bB, 0, none⟩) (Kept.refl _ _) rfl _
    have E7 := E6.kept k7 (by omega); have EW7 := EW6.kept k7 (by omega)
    have F7 := F6.kept k7 (by omega); have FW7 := FW6.kept k7 (by omega)
    have a_0 := RA6.box1; have b_0 := RB6.box1; have bf_0 := WB6.frz 0 (by omega)
    have hsA6 := World.block_lt_of_cell? _ _ a_0; dsimp only at hsA6
    have hsB6 := World.block_lt_of_cell? _ _ b_0; dsimp only at hsB6
    go_upto_region 6 with fail
    rw [← hW7]
    have SA7 : Sl GDNode.R 4 w1.heap.size w7 (.slice xa la.length ca) la := SA3.agree GDNode.good fun k h1 h2 => (k7 k (by omega) (by omega)).trans ((D6.kept k (by omega) (by omega)).trans (K35 k h2 (by omega)))
    have hB7 : Below w.heap.size w w7 := by rw [hW7]; exact hB6.setCell (p := ⟨bB, 0, none⟩) (by show w.heap.size ≤ bB; omega) _
    clear hW7 a_0 b_0 bf_0 hsA6 hsB6
    have a_0 := RA7.box1; have b_0 := RB7.box1
    have hsA7 := World.block_lt_of_cell? _ _ a_0; dsimp only at hsA7
    have hsB7 := World.block_lt_of_cell? _ _ b_0; dsimp only at hsB7
    have e_0 := E7.box1; have ef_0 := EW7.frz 0 (by omega)
    have f_0 := F7.box1; have ff_0 := FW7.frz 0 (by omega)
    have hsE7 := World.block_lt_of_cell? _ _ e_0; dsimp only at hsE7
    have hsF7 := World.block_lt_of_cell? _ _ f_0; dsimp only at hsF7
    go_region_held3 (fun w' => w'.cell? ⟨bA, 0, none⟩ = some (.slice xa la.length ca) ∧ w'.cell? ⟨bB, 0, none⟩ = some (.slice xa la.length ca)) (first | exact ⟨a_0, b_0⟩ | go_keep) (fail)
    all_goals go_wp2_with fail
    all_goals
      first
        | (obtain ⟨w8, hW8⟩ : ∃ W, W = ((w7.setCell ⟨w.heap.size, 0, none⟩ (.slice xa la.length ca)).setCell ⟨w.heap.size + 1, 0, none⟩ (.slice xa la.length ca)).drew := ⟨_, rfl⟩
           rw [← hW8]
           obtain ⟨F8, e_8, f_8⟩ := hfin.out w7 w8 xa ca la (.inl hW8) SA7 SA7 ⟨a1, a2, a3⟩ hB7 E7 F7)
        | (obtain ⟨w8, hW8⟩ : ∃ W, W = ((w7.setCell ⟨w.heap.size + 1, 0, none⟩ (.slice xa la.length ca)).setCell ⟨w.heap.size, 0, none⟩ (.slice xa la.length ca)).drew := ⟨_, rfl⟩
           rw [← hW8]
           obtain ⟨F8, e_8, f_8⟩ := hfin.out w7 w8 xa ca la (.inr hW8) SA7 SA7 ⟨a1, a2, a3⟩ hB7 E7 F7)
      clear hW8
      refine bodyPost_ret (v := .tuple #[.agg #[.slice xa la.length ca], .agg #[.slice xa la.length ca]]) (by simp [results, Try.results6, go_sem, e_8, f_8]) rfl ?_
      exact F8
  · have hd : (x == 0) = false := by simpa using hx
    have a_0 := RA6.box1; have b_0 := RB6.box1
    have hsA6 := World.block_lt_of_cell? _ _ a_0; dsimp only at hsA6
    have hsB6 := World.block_lt_of_cell? _ _ b_0; dsimp only at hsB6
    have e_0 := E6.box1; have ef_0 := EW6.frz 0 (by omega)
    have f_0 := F6.box1; have ff_0 := FW6.frz 0 (by omega)
    have hsE7 := World.block_lt_of_cell? _ _ e_0; dsimp only at hsE7
    have hsF7 := World.block_lt_of_cell? _ _ f_0; dsimp only at hsF7
    go_upto_region 6 with fail
    go_region_held3 (fun w' => w'.cell? ⟨bA, 0, none⟩ = some (.slice xa la.length ca) ∧ w'.cell? ⟨bB, 0, none⟩ = some (.slice xb lb.length cb)) (first | exact ⟨a_0, b_0⟩ | go_keep) (fail)
    all_goals go_wp2_with fail
    all_goals
      first
        | (obtain ⟨w8, hW8⟩ : ∃ W, W = ((w6.setCell ⟨w.heap.size, 0, none⟩ (.slice xa la.length ca)).setCell ⟨w.heap.size + 1, 0, none⟩ (.slice xb lb.length cb)).drew := ⟨_, rfl⟩
           rw [← hW8]
           obtain ⟨F8, e_8, f_8⟩ := hfin.out w6 w8 xb cb lb (.inl hW8) SA6 SB6 ⟨b1, b2, b3⟩ hB6 E6 F6)
        | (obtain ⟨w8, hW8⟩ : ∃ W, W = ((w6.setCell ⟨w.heap.size + 1, 0, none⟩ (.slice xb lb.length cb)).setCell ⟨w.heap.size, 0, none⟩ (.slice xa la.length ca)).drew := ⟨_, rfl⟩
           rw [← hW8]
           obtain ⟨F8, e_8, f_8⟩ := hfin.out w6 w8 xb cb lb (.inr hW8) SA6 SB6 ⟨b1, b2, b3⟩ hB6 E6 F6)
      clear hW8
      refine bodyPost_ret (v := .tuple #[.agg #[.slice xa la.length ca], .agg #[.slice xb lb.length cb]]) (by simp [results, Try.results6, go_sem, e_8, f_8]) rfl ?_
      exact F8
end Go.Proofs.Ytpblhonnknmjjaa

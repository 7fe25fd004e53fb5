/- Parts of the proof, merged: Text5, Text6, GrowData, Text7, Text8, Read. -/
import Derived.Deep.RegionHeld3
import Derived.Deep.RegionLaw
import Derived.Test.YtpblhonnknmjjaaTx7
/- The text of a value: the reference's l21Text at a list's constructor. -/
namespace Go.Proofs.Ytpblhonnknmjjaa
open Go.RowKit
set_option linter.unusedVariables false
set_option linter.unusedSimpArgs false
attribute [local go_sem] Ext.cell

set_option maxRecDepth 100000 in
set_option maxHeartbeats 8000000 in
theorem stext_cons (nb no N nc i j kb ko kc kb2 ko2 kc2 : Nat) (j0 j1 n n5 : Int) (s s5 A B : ByteArray) (w : World) (hi : i < N) (hj : j < N) (hN : N ≤ 600) (hr : RowAt w nb (no + i * 4) [.int .i64 4, .int .i64 n, .string s, .slice (some ⟨kb, ko, none⟩) 1 kc])
    (hr5 : RowAt w nb (no + j * 4) [.int .i64 5, .int .i64 n5, .string s5, .slice (some ⟨kb2, ko2, none⟩) 2 kc2]) (p : w.cell? ⟨kb, ko, none⟩ = some (.int .i64 j)) (hs : (s.toList == sCons) = true)
    (p0 : w.cell? ⟨kb2, ko2, none⟩ = some (.int .i64 j0)) (p1 : w.cell? ⟨kb2, ko2 + 1, none⟩ = some (.int .i64 j1)) (hA : A.size ≤ 1073741824) (hB : B.size ≤ 1073741824)
    (cA : ∀ W, Below w.heap.size w W → Calls Try.prog 28 #[.agg #[.slice (some ⟨nb, no, none⟩) N nc], .int .i64 j0] W fun e w' => e = .returned (.string A) ∧ Below W.heap.size W w')
    (cB : ∀ W, Below w.heap.size w W → Calls Try.prog 28 #[.agg #[.slice (some ⟨nb, no, none⟩) N nc], .int .i64 j1] W fun e w' => e = .returned (.string B) ∧ Below W.heap.size W w') :
    Calls Try.prog 28 #[.agg #[.slice (some ⟨nb, no, none⟩) N nc], .int .i64 i] w fun e w' => e = .returned (.string (bParen ++ A ++ bColons ++ B ++ bClose)) ∧ Below w.heap.size w w' := by
  obtain ⟨e0, e1, e2, e3⟩ := hr.cells4
  have hb0 := World.block_lt_of_cell? _ _ e0
  dsimp only at hb0
  unfold sCons at hs
  have l1 : (9223372036854775807 < 1 + A.size) = False := by simp; omega
  have l2 : (9223372036854775807 < 1 + A.size + 4) = False := by simp; omega
  have l3 : (9223372036854775807 < 1 + A.size + 4 + B.size) = False := by simp; omega
  have l4 : (9223372036854775807 < 1 + A.size + 4 + B.size + 1) = False := by simp; omega
  have i0 : (0 : Int) ≤ (j : Int) := by omega
  have i1 : (j : Int) < (N : Int) := by omega
  replace cA := Lib.hid cA; replace cB := Lib.hid cB
  clear hr
  go_enter Try.func28, Try.ntmps28
  go_upto_region 2 with fail
  have D : RowAt (w.alloc (.cells #[.slice (some ⟨nb, no, none⟩) N nc] 25)) (w.heap.size) 0 [.slice (some ⟨nb, no, none⟩) N nc] := RowAt.box w #[.slice (some ⟨nb, no, none⟩) N nc] 25
  have D := D.below (show Below (w.alloc (.cells #[.slice (some ⟨nb, no, none⟩) N nc] 25)).heap.size (w.alloc (.cells #[.slice (some ⟨nb, no, none⟩) N nc] 25)) ((w.alloc (.cells #[.slice (some ⟨nb, no, none⟩) N nc] 25)).alloc (.cells #[.int .i64 4, .int .i64 n, .string s, .slice (some ⟨kb, ko, none⟩) 1 kc] 44)) by go_grown)
  have M : RowAt ((w.alloc (.cells #[.slice (some ⟨nb, no, none⟩) N nc] 25)).alloc (.cells #[.int .i64 4, .int .i64 n, .string s, .slice (some ⟨kb, ko, none⟩) 1 kc] 44)) (w.heap.size + 1) 0 [.int .i64 4, .int .i64 n, .string s, .slice (some ⟨kb, ko, none⟩) 1 kc] := by have h := RowAt.box (w.alloc (.cells #[.slice (some ⟨nb, no, none⟩) N nc] 25)) #[.int .i64 4, .int .i64 n, .string s, .slice (some ⟨kb, ko, none⟩) 1 kc] 44; simp only [World.size_alloc] at h; exact h
  have hw : Below w.heap.size w ((w.alloc (.cells #[.slice (some ⟨nb, no, none⟩) N nc] 25)).alloc (.cells #[.int .i64 4, .int .i64 n, .string s, .slice (some ⟨kb, ko, none⟩) 1 kc] 44)) := by go_grown
  generalize ((w.alloc (.cells #[.slice (some ⟨nb, no, none⟩) N nc] 25)).alloc (.cells #[.int .i64 4, .int .i64 n, .string s, .slice (some ⟨kb, ko, none⟩) 1 kc] 44)) = w0 at *
  have d_0 := D.box1; have hsD := World.block_lt_of_cell? _ _ d_0; dsimp only at hsD; obtain ⟨m_0, m_1, m_2, m_3⟩ := M.box4; have hsM := World.block_lt_of_cell? _ _ m_0; dsimp only at hsM
  have p := cell_below hw p
  have p0 := cell_below hw p0
  have p1 := cell_below hw p1
  obtain ⟨f0, f1, f2, f3⟩ := (hr5.below hw).cells4
  have hbp := World.block_lt_of_cell? _ _ p
  have hbp0 := World.block_lt_of_cell? _ _ p0
  have hbf := World.block_lt_of_cell? _ _ f0
  dsimp only at hbp hbp0 hbf
  clear e0 e1 e2 e3 hr5
  go_upto_region 14 with fail
  go_region_held3 (fun w' => w'.cell? ⟨w.heap.size, 0, none⟩ = some (.slice (some ⟨nb, no, none⟩) N nc) ∧ w'.cell? ⟨w.heap.size + 1, 3, none⟩ = some (.slice (some ⟨kb, ko, none⟩) 1 kc) ∧ w'.cell? ⟨kb, ko, none⟩ = some (.int .i64 j) ∧ w'.cell? ⟨nb, no + j * 4, none⟩ = some (.int .i64 5) ∧ w'.cell? ⟨nb, no + j * 4 + 1, none⟩ = some (.int .i64 n5) ∧ w'.cell? ⟨nb, no + j * 4 + 2, none⟩ = some (.string s5) ∧ w'.cell? ⟨nb, no + j * 4 + 3, none⟩ = some (.slice (some ⟨kb2, ko2, none⟩) 2 kc2)) (go_keep) (fail)
  go_upto_region 15 with fail
  obtain ⟨W, hW⟩ : ∃ W, W = (w0.alloc (.cells #[.int .i64 5, .int .i64 n5, .string s5, .slice (some ⟨kb2, ko2, none⟩) 2 kc2] 44)).drew := ⟨_, rfl⟩
  have hWb : Below w0.heap.size w0 W := by rw [hW]; go_grown
  have F : RowAt W w0.heap.size 0 [.int .i64 5, .int .i64 n5, .string s5, .slice (some ⟨kb2, ko2, none⟩) 2 kc2] := by rw [hW]; exact RowAt.box w0 #[_, _, _, _] _
  rw [← hW]
  have hK := hw.trans (hWb.mono hw.size)
  have D := D.below hWb
  have p0 := cell_below hWb p0
  have p1 := cell_below hWb p1
  clear hW hWb p f0 f1 f2 f3 hbp hbp0 hbf hb0 M m_0 m_1 m_2 m_3 hsM
  have d_0 := D.box1; have hsD := World.block_lt_of_cell? _ _ d_0; dsimp only at hsD; obtain ⟨f_0, f_1, f_2, f_3⟩ := F.box4; have hsF := World.block_lt_of_cell? _ _ f_0; dsimp only at hsF
  have hbp0 := World.block_lt_of_cell? _ _ p0
  dsimp only at hbp0
  go_region_held3 (fun w' => w'.cell? ⟨w.heap.size, 0, none⟩ = some (.slice (some ⟨nb, no, none⟩) N nc) ∧ w'.cell? ⟨w0.heap.size, 3, none⟩ = some (.slice (some ⟨kb2, ko2, none⟩) 2 kc2) ∧ w'.cell? ⟨kb2, ko2, none⟩ = some (.int .i64 j0) ∧ w'.cell? ⟨kb2, ko2 + 1, none⟩ = some (.int .i64 j1))
    (first | go_keep | (refine ⟨cell_below hb ?_, cell_below hb ?_, cell_below hb ?_, cell_below hb ?_⟩ <;> go_keep))
    (first
      | (go_at_call 28; ((with_reducible refine (cA.out _ (by go_grown)).mono ?_); rintro e w1 ⟨rfl, hb⟩; have hK : Below w.heap.size w w1 := Below.trans (by go_grown) (hb.mono (by have := hK.size; first | (simp; omega) | omega))))
      | (go_at_call 28; ((with_reducible refine (cB.out _ (by go_grown)).mono ?_); rintro e w1 ⟨rfl, hb⟩; have hK : Below w.heap.size w w1 := Below.trans (by go_grown) (hb.mono (by have := hK.size; first | (simp; omega) | omega)))))
  all_goals go_wp2_with fail
  all_goals go_returns
  all_goals exact ⟨rfl, hK⟩

end Go.Proofs.Ytpblhonnknmjjaa

/- The tree of a right value: its shape, and how long its text may be. -/
namespace Go.Proofs.Ytpblhonnknmjjaa
open Go.RowKit
set_option linter.unusedVariables false
set_option linter.unusedSimpArgs false

theorem dataOk_nodes {d : GData} (h : dataOk d = true) : ∀ (j : Nat) x, d.nodes[j]? = some x → nodeOk d.nodes x = true := by
  unfold dataOk at h
  simp only [Bool.and_eq_true, decide_eq_true_eq, Bool.not_eq_true'] at h
  obtain ⟨h1, h2, h3⟩ := h
  intro j x hx
  rw [List.any_eq_false] at h3
  have := h3 x (List.mem_of_getElem? hx)
  simpa using this

theorem conShape_cons {s : ByteArray} {k : Int} {pb : Bool} (hs : (s.toList == sCons) = true) (h : conShape s k pb = true) : pb = true := by
  have e := eq_of_beq hs
  unfold conShape at h
  rw [e] at h
  have h1 : (sCons == sTrue || sCons == sFalse || sCons == sNil) = false := by decide
  rw [h1] at h
  simp at h
  exact h.2

theorem treeOf_tok (l : List GDNode) (hU : Up l) (hok : ∀ (j : Nat) x, l[j]? = some x → nodeOk l x = true) (hwf : ∀ (j : Nat) x, l[j]? = some x → x.wf) : ∀ (f i : Nat), i < l.length → l.length ≤ i + f → TOk f (treeOf l f i)
  | 0, i, hi, hf => absurd hf (by omega)
  | f + 1, i, hi, hf => by
    obtain ⟨x, hx⟩ : ∃ x, l[i]? = some x := ⟨_, List.getElem?_eq_getElem hi⟩
    rw [treeOf_some hx]
    have hup := hU i x hx
    have hn := hok i x hx
    refine ⟨hwf i x hx, ?_, fun k hk => ?_⟩
    · obtain ⟨kd, nn, s, ks⟩ := x
      simp only [PxT.kind, PxT.kids, PxT.s] at *
      rcases nodeOk_kind l kd nn s ks with ⟨e, h⟩ | ⟨e, h⟩ | ⟨e, h⟩ | ⟨e, h⟩ | ⟨e, h⟩ | ⟨_, _, _, _, _, h⟩
      all_goals rw [hn] at h; replace h := h.symm; (try simp only [Bool.and_eq_true, beq_iff_eq] at h)
      · have : ks = [] := List.length_eq_zero_iff.1 (by omega)
        subst this; exact .inr (.inr (.inl ⟨e, rfl⟩))
      · have : ks = [] := List.length_eq_zero_iff.1 (by omega)
        subst this; exact .inr (.inl ⟨e, rfl⟩)
      · have : ks = [] := List.length_eq_zero_iff.1 (by omega)
        subst this; exact .inl ⟨e, rfl⟩
      · refine .inr (.inr (.inr (.inr ⟨e, ?_⟩)))
        have hl := conShape_le h.2
        match ks, hl with
        | [], _ => exact .inl rfl
        | [k], _ =>
          refine .inr ⟨_, rfl, fun hs => ?_⟩
          have hp := conShape_cons hs h.2
          have hk := hup k (by simp)
          obtain ⟨q, rfl⟩ : ∃ q : Nat, k = q := ⟨k.toNat, by omega⟩
          obtain ⟨y, hy⟩ : ∃ y, l[q]? = some y := ⟨_, List.getElem?_eq_getElem (by omega)⟩
          have h5 : y.kind = 5 := by
            unfold pairOf kindAt at hp
            simp [hy] at hp
            exact hp
          match f, (show f ≠ 0 by omega) with
          | f + 1, _ =>
            show (treeOf l (f + 1) ((q : Int).toNat)).kind = 5
            rw [Int.toNat_natCast, treeOf_some hy]
            exact h5
        | _ :: _ :: _, hl => simp at hl; omega
      · match ks, h.1 with
        | [a, b], _ => exact .inr (.inr (.inr (.inl ⟨e, _, _, rfl⟩)))
        | [], h => simp at h
        | [_], h => simp at h
        | _ :: _ :: _ :: _, h => simp at h; omega
      · cases h
    · obtain ⟨k', hk', rfl⟩ := List.mem_map.1 hk
      have := hup k' hk'
      exact treeOf_tok l hU hok hwf f k'.toNat (by omega) (by omega)

def pre (l : List GDNode) (j : Nat) : Nat := ((l.take j).map fun x => 4 * x.s.size + 30).sum
theorem pre_succ {l : List GDNode} {i : Nat} {x : GDNode} (h : l[i]? = some x) : pre l (i + 1) = pre l i + (4 * x.s.size + 30) := by
  unfold pre
  rw [take_snoc' h]
  simp
theorem pre_mono (l : List GDNode) : ∀ (k i : Nat), pre l i ≤ pre l (i + k)
  | 0, i => Nat.le_refl _
  | k + 1, i => by
    have h := pre_mono l k i
    cases hx : l[i + k]? with
    | some x => have := pre_succ hx; rw [← Nat.add_assoc, this]; omega
    | none =>
      have hl := List.getElem?_eq_none_iff.1 hx
      unfold pre at *
      rw [List.take_of_length_le (show l.length ≤ i + (k + 1) by omega)]
      rw [List.take_of_length_le hl] at h
      exact h
theorem kidsEnd_wt {E : Nat → Int} {L : Int} (g P : Nat → Nat) (hE : ∀ k, 0 ≤ E k → (k : Int) + 1 ≤ E k ∧ E k ≤ L) (hg : ∀ k, 0 ≤ E k → g k + P k ≤ P (E k).toNat) : ∀ (ks : List Int) (nx : Int), 0 ≤ nx → 0 ≤ kidsEnd E nx ks →
    (ks.map fun k => g k.toNat).sum + P nx.toNat ≤ P (kidsEnd E nx ks).toNat
  | [], nx, h0, h => by unfold kidsEnd; simp
  | k :: ks, nx, h0, h => by
    unfold kidsEnd at h ⊢
    split at h
    · omega
    · split at h
      · omega
      · rename_i h1 h2
        have e : k = nx := by omega
        subst e
        have h3 := hE k.toNat (by omega)
        have h4 := kidsEnd_wt g P hE hg ks (E k.toNat) (by omega) h
        have h5 := hg k.toNat (by omega)
        rw [if_neg h1, if_neg h2]
        simp only [List.map_cons, List.sum_cons]
        omega
theorem wt_ends (l : List GDNode) : ∀ (F i f : Nat), 0 ≤ ends l F i → wt f (treeOf l f i) + pre l i ≤ pre l (ends l F i).toNat
  | 0, i, f, h => by simp [ends] at h
  | F + 1, i, f, h => by
    have hr := ends_range l (F + 1) i h
    match f with
    | 0 =>
      have := pre_mono l ((ends l (F + 1) i).toNat - i) i
      rw [show i + ((ends l (F + 1) i).toNat - i) = (ends l (F + 1) i).toNat by omega] at this
      show 0 + pre l i ≤ _
      omega
    | f + 1 =>
      unfold ends at h ⊢
      cases hx : l[i]? with
      | none => rw [hx] at h; simp at h
      | some x =>
        rw [hx] at h
        have h1 := kidsEnd_wt (fun k => wt f (treeOf l f k)) (pre l) (ends_range l F) (fun k hk => wt_ends l F k f hk) x.kids (i + 1) (by omega) h
        have h2 := pre_succ hx
        rw [treeOf_some hx]
        show 4 * x.s.size + 30 + ((x.kids.map fun k => treeOf l f k.toNat).map (wt f)).sum + pre l i ≤ pre l (kidsEnd (ends l F) (i + 1) x.kids).toNat
        rw [List.map_map]
        have e : (((i : Int) + 1).toNat) = i + 1 := by omega
        rw [e] at h1
        have e2 : (x.kids.map (wt f ∘ fun k => treeOf l f k.toNat)) = x.kids.map fun k => wt f (treeOf l f k.toNat) := rfl
        rw [e2]
        omega
theorem sum_pre (l : List GDNode) : (((l.map fun x => 4 * x.s.size + 30).sum : Nat) : Int) ≤ 4 * bulkS GDNode.bulk l + 30 * l.length := by
  unfold bulkS
  induction l with
  | nil => simp
  | cons a l ih =>
    simp only [List.map_cons, List.sum_cons, List.length_cons] at *
    have : (a.s.size : Int) ≤ a.bulk := by unfold GDNode.bulk; omega
    omega
theorem wt_data {d : GData} (h : dataOk d = true) (hb : d.bulk ≤ 1048576) : wt d.nodes.length (treeOf d.nodes d.nodes.length 0) ≤ 1073741824 := by
  obtain ⟨_, h0, h6⟩ := dataOk_up h
  unfold dataOk at h
  simp only [Bool.and_eq_true, decide_eq_true_eq] at h
  obtain ⟨h1, h2, _⟩ := h
  rw [show kidsAt d.nodes = (fun i => (d.nodes[i]?.map (·.kids)).getD []) from rfl, ← ends_eq] at h2
  have h3 := wt_ends d.nodes (d.nodes.length + 1) 0 d.nodes.length (by omega)
  rw [h2, Int.toNat_natCast] at h3
  have h4 := sum_pre d.nodes
  have h5 : pre d.nodes d.nodes.length = (d.nodes.map fun x => 4 * x.s.size + 30).sum := by unfold pre; rw [List.take_length]
  unfold GData.bulk at hb
  rw [h5] at h3
  omega

end Go.Proofs.Ytpblhonnknmjjaa

/- The program's growData: the tree of a value's node. -/
namespace Go.Proofs.Ytpblhonnknmjjaa
open Go.RowKit
set_option linter.unusedVariables false
set_option linter.unusedSimpArgs false
attribute [local go_sem] Ext.cell

theorem info_px : (Try.prog.info? 48).map (fun i => (i.zero, i.size, i.bytes)) = some (some (.pointer none), 1, 8) := by kernel_rfl

set_option maxRecDepth 100000 in
set_option maxHeartbeats 8000000 in
theorem growData_c (l : List GDNode) (hU : Up l) (hfew : ∀ (j : Nat) x, l[j]? = some x → x.kids.length ≤ 2) (hL : l.length ≤ 600) : ∀ (f i : Nat) (u : Value) (lo : Nat) (w : World), Sl GDNode.R 4 lo w u l → i < l.length → l.length ≤ i + f →
    Calls Try.prog 27 #[u, .int .i64 i] w fun e w' => ∃ b, e = .returned (.pointer (some ⟨b, 0, none⟩)) ∧ PxR f (fun b => w.heap.size ≤ b) w' (.pointer (some ⟨b, 0, none⟩)) (treeOf l f i) ∧ Below w.heap.size w w'
  | 0, i, u, lo, w, hu, hi, hf => absurd hf (by omega)
  | f + 1, i, u, lo, w, hu, hi, hf => by
    have ih := growData_c l hU hfew hL f
    have Hu := hu
    obtain ⟨a, c, rfl, ul, um, h0⟩ := hu
    obtain ⟨b1, o1, x, s1, _, rfl, P1, hx, r1⟩ := h0.get (Lib.hid rfl) hi
    have P1 := P1.out
    have hT := treeOf_some (f := f) P1
    have hup := hU i x P1
    have hf2 := hfew i x P1
    obtain ⟨kd, nn, s, ks⟩ := x
    obtain ⟨u0, rfl, hwf, hkd⟩ := hx
    obtain ⟨ka, kc, rfl, kl, km, k0⟩ := hkd
    dsimp only at *
    obtain ⟨m, hm⟩ : ∃ m, m = ks.length := ⟨_, rfl⟩
    rw [← hm] at r1 kl hf2
    replace hm := Lib.hid hm
    obtain ⟨e_0, e_1, e_2, e_3⟩ := r1.cells4
    obtain ⟨i0, hi0, hz0, hz1, hz2⟩ := info_parts info_px
    have I := Lib.hid hi0; have I0 := Lib.hid hz0; have I1 := Lib.hid hz1; have I2 := Lib.hid hz2
    clear r1 hi0 hz0 hz1 hz2 P1 h0
    replace k0 := Lib.hid k0; replace hup := Lib.hid hup; replace ih := Lib.hid ih; replace hT := Lib.hid hT
    replace Hu := Lib.hid Hu
    clear hU hfew
    generalize hn : l.length = n at *
    replace hn := Lib.hid hn
    go_enter Try.func27, Try.ntmps27
    go_upto_region 4 with fail
    have hfz : ((w.alloc (.cells #[.int .i64 kd, .int .i64 nn, .string s, .slice ka m kc] 44)).alloc (.cells #[.int .i64 kd, .int .i64 nn, .string s, .slice none 0 0] 82)).frozen? ⟨w.heap.size + 1, 3, none⟩ = false := by go_simp
    have N : RowAt (w.alloc (.cells #[.int .i64 kd, .int .i64 nn, .string s, .slice ka m kc] 44)) (w.heap.size) 0 [.int .i64 kd, .int .i64 nn, .string s, .slice ka m kc] := RowAt.box w #[.int .i64 kd, .int .i64 nn, .string s, .slice ka m kc] 44
    have N := N.below (show Below (w.alloc (.cells #[.int .i64 kd, .int .i64 nn, .string s, .slice ka m kc] 44)).heap.size (w.alloc (.cells #[.int .i64 kd, .int .i64 nn, .string s, .slice ka m kc] 44)) ((w.alloc (.cells #[.int .i64 kd, .int .i64 nn, .string s, .slice ka m kc] 44)).alloc (.cells #[.int .i64 kd, .int .i64 nn, .string s, .slice none 0 0] 82)) by go_grown)
    have O : RowAt ((w.alloc (.cells #[.int .i64 kd, .int .i64 nn, .string s, .slice ka m kc] 44)).alloc (.cells #[.int .i64 kd, .int .i64 nn, .string s, .slice none 0 0] 82)) (w.heap.size + 1) 0 [.int .i64 kd, .int .i64 nn, .string s, .slice none 0 0] := by have h := RowAt.box (w.alloc (.cells #[.int .i64 kd, .int .i64 nn, .string s, .slice ka m kc] 44)) #[.int .i64 kd, .int .i64 nn, .string s, .slice none 0 0] 82; simp only [World.size_alloc] at h; exact h
    have hw : Below w.heap.size w ((w.alloc (.cells #[.int .i64 kd, .int .i64 nn, .string s, .slice ka m kc] 44)).alloc (.cells #[.int .i64 kd, .int .i64 nn, .string s, .slice none 0 0] 82)) := by go_grown
    generalize ((w.alloc (.cells #[.int .i64 kd, .int .i64 nn, .string s, .slice ka m kc] 44)).alloc (.cells #[.int .i64 kd, .int .i64 nn, .string s, .slice none 0 0] 82)) = w0 at *
    have hO := O.box4.1
    go_loopw [24] (fun ii wr => ∃ (j : Nat) (vs : List Value) (v : Value), j ≤ m ∧ ii = .int .i64 j ∧ Below w.heap.size w wr ∧ RowAt wr (w.heap.size + 1) 0 [.int .i64 kd, .int .i64 nn, .string s, v] ∧ wr.frozen? ⟨w.heap.size + 1, 3, none⟩ = false ∧
        Hid (KidsOwn wr (w.heap.size + 2) 48 f vs ((ks.take j).map fun k => treeOf l f k.toNat) v) ∧ w.heap.size + 2 ≤ wr.heap.size) (fun ii _ => m - (intOf ii).toNat)
    case atStart => exact ⟨0, [], _, by omega, rfl, hw, O, hfz, KidsOwn.nil _ _ _ _, World.block_lt_of_cell? _ _ hO⟩
    case round =>
      clear hO O N hw hfz
      obtain ⟨j, vs, v, hj, rfl, hw, O, hfz, hK, hz⟩ := hrel
      obtain ⟨ma, mcap, rfl⟩ := hK.out.form
      by_cases hjm : j < m
      · obtain ⟨b2, o2, k, s2, _, rfl, P2, ⟨rfl, hk64⟩, r2⟩ := ((k0.out.below IntR.good hw).get hm hjm)
        have e0 : wr.cell? ⟨b2, o2 + j, none⟩ = some (.int .i64 k) := by simpa using r2 0 _ rfl
        have hk := hup.out k (List.mem_of_getElem? P2.out)
        obtain ⟨q, rfl⟩ : ∃ q : Nat, k = q := ⟨k.toNat, by omega⟩
        have hst : (ks.take (j + 1)).map (fun k => treeOf l f k.toNat) = (ks.take j).map (fun k => treeOf l f k.toNat) ++ [treeOf l f q] := by rw [take_snoc' P2.out]; simp
        have hlen : ((ks.take j).map fun k => treeOf l f k.toNat).length = j := by have := hm.out; simp; omega
        have hc := fun W (hW : Below w.heap.size w W) => ih.out q (.slice (some ⟨b1, o1, none⟩) n c) lo W (Hu.out.below GDNode.good hW) (by have := hn.out; omega) (by have := hn.out; omega)
        rw [hlen] at O
        replace hc := Lib.hid hc
        obtain ⟨o_0, o_1, o_2, o_3⟩ := O.box4
        have hw2 := hw.size
        clear r2 P2
        replace hK : Hid (KidsOwn wr (w.heap.size + 2) 48 f vs ((ks.take j).map fun k => treeOf l f k.toNat) (.slice ma j mcap)) := by have h := hK.out; rw [hlen] at h; exact h
        have hown0 : wr.ownsRow (w.heap.size + 2) 48 1 (.slice ma j mcap) j vs := by have h := hK.out.2.1; rw [hlen] at h; exact h
        have hne : ∀ g, (Value.slice ma j mcap).ownBlock = some g → w.heap.size + 2 ≤ g ∧ g < wr.heap.size := own_base hown0
        replace hown0 := Lib.hid hown0
        replace hne := Lib.hid hne
        replace hst := Lib.hid hst
        replace hlen := Lib.hid hlen
        go_wp2_with fail
        go_region_law
          (first
            | (go_simp; go_at_call 27; refine (hc.out _ (by go_grown)).mono ?_; rintro e w1 ⟨pb, rfl, hR, hb⟩; have hb' : Below wr.heap.size wr w1 := Below.trans (show Below wr.heap.size wr wr.drew by go_grown) (hb.mono (by simp)); have hz1 := hb'.size; have o3' := cell_below hb' o_3; have hs1 : w.heap.size + 1 < w1.heap.size := Nat.lt_of_lt_of_le (show w.heap.size + 1 < wr.heap.size from hz) hz1; clear hb)
            | (refine step_append_lies _ (by rfl) _ _ _ (by rfl) (w.heap.size + 2) 48 i0 _ 1 8 Try.underlying80 I.out I0.out I1.out I2.out rfl (by omega) _ j vs (by rfl) (own_below hown0.out (by go_grown)) ⟨w1.heap.size, 0, none⟩ 1 1 [.pointer (some ⟨pb, 0, none⟩)] (by rfl) (by rfl) (World.news_of_block (cs := #[.pointer (some ⟨pb, 0, none⟩)]) (t := 48) (fr := (0, 0)) (heap_alloc_new' _ _ _ (by simp))) (by intro u hu; simp at hu; subst hu; rfl) (by omega) (by unfold maxLen; omega) (by omega) (by simp; omega) (w1.heap.size + 1) (by simp) ?_; intro g cap w2 hown hgrow hat hlt2; have hk3 := kept_of hgrow (w := wr) (by go_grown); have hblk : w2.heap[w.heap.size + 1]? = wr.heap[w.heap.size + 1]? := hk3 _ (by omega) (fun e => by have := (hne.out _ e.symm).1; omega); have c2 : w2.cell? ⟨w.heap.size + 1, 3, none⟩ = some (.slice ma j mcap) := (World.cell?_of_block (w := wr) (a := ⟨w.heap.size + 1, 3, none⟩) hblk).trans o_3; have f2 : w2.frozen? ⟨w.heap.size + 1, 3, none⟩ = false := (World.frozen?_of_block (w := wr) (a := ⟨w.heap.size + 1, 3, none⟩) hblk).trans hfz))
        all_goals
          have hB2 : Below w.heap.size w w2 := hw.trans ((below_grown2 (wr := wr) (base := w.heap.size + 2) hgrow (by go_grown) (Below.refl _ wr) hz hown0.out).mono (by omega))
          have hO2 := (O.of_block hblk).set3 (.slice (some ⟨g, 0, none⟩) (j + 1) cap)
          have hK2 := (KidsOwn.grow hK.out hz hb' (show Below w1.heap.size w1 (w1.alloc (.cells #[.pointer (some ⟨pb, 0, none⟩)] 48)) by go_grown) hR hgrow hown (by rw [hlen.out]) (by simpa using hat)).set (b := w.heap.size + 1) (o := 3) (by omega) (.slice (some ⟨g, 0, none⟩) (j + 1) cap)
          rw [← hst.out] at hK2
          have hz2 := hgrow.size
          simp only [World.size_alloc] at hz2
          replace hK2 := Lib.hid hK2
          clear hR hgrow hown hat hk3 hblk hK hc hne hlen hst hown0 hb' o3'
          go_wp2_with fail
          go_roundw
          case rel => exact ⟨j + 1, _, .slice (some ⟨g, 0, none⟩) (j + 1) cap, by omega, by go_num, hB2.setCell (p := ⟨w.heap.size + 1, 3, none⟩) (by simp) _, hO2, by rw [frozen_setCell]; exact f2, hK2.out, by simp; omega⟩
          case measure => simp [intOf]; omega
      · obtain rfl : j = m := by omega
        have hlen : ks.take j = ks := List.take_of_length_le (by have := hm.out; omega)
        rw [hlen] at hK O
        replace hlen := Lib.hid hlen
        have hfin : PxR (f + 1) (fun b => w.heap.size ≤ b) wr (.pointer (some ⟨w.heap.size + 1, 0, none⟩)) (treeOf l (f + 1) i) := by
          rw [hT.out]
          exact KidsOwn.tree (lo := w.heap.size) (b := w.heap.size + 1) (base := w.heap.size + 2) (t := .mk kd nn s (ks.map fun k => treeOf l f k.toNat)) hK.out (by omega) (by omega) hwf O
        replace hfin := Lib.hid hfin
        clear hK O
        go_wp2_with fail
        go_returns
        exact ⟨w.heap.size + 1, rfl, hfin.out, hw⟩

end Go.Proofs.Ytpblhonnknmjjaa

/- DataText of both. -/
namespace Go.Proofs.Ytpblhonnknmjjaa
open Go.RowKit
set_option linter.unusedVariables false
set_option linter.unusedSimpArgs false
attribute [local go_sem] Ext.cell

theorem l21Text_c (d : GData) (hU : Up d.nodes) (hL : d.nodes.length ≤ 600) : ∀ (f i : Nat), i < d.nodes.length → d.nodes.length ≤ i + f → TOk f (treeOf d.nodes f i) → wt f (treeOf d.nodes f i) ≤ 1073741824 → ∀ (r : List Value) (lo : Nat) (w : World), GData.R lo w r d →
    Calls Try.prog 28 #[.agg r.toArray, .int .i64 i] w fun e w' => e = .returned (.string (textT f (treeOf d.nodes f i))) ∧ Below w.heap.size w w' := by
  intro f
  induction f using Nat.strongRecOn with
  | _ f ih =>
    intro i hi hf ht hw r lo w hr
    match f, ht, hw with
    | f + 1, ht, hw =>
      obtain ⟨u, rfl, -, hu⟩ := hr
      have Hu := hu
      obtain ⟨a, c, rfl, ul, um, h0⟩ := hu
      obtain ⟨nb, no, x, r1, _, rfl, P1, hx, R1⟩ := h0.get (Lib.hid rfl) hi
      have P1 := P1.out
      have hup := hU i x P1
      rw [treeOf_some P1] at ht hw ⊢
      obtain ⟨kd, n, s, ks⟩ := x
      obtain ⟨u0, rfl, hwf, hkd⟩ := hx
      obtain ⟨ka, kc, rfl, kl, km, k0⟩ := hkd
      have hn : I64 n := hwf.2.1
      obtain ⟨_, hk, hkids⟩ := ht
      have hwt : 4 * s.size + 30 + ((ks.map fun k => treeOf d.nodes f k.toNat).map (wt f)).sum ≤ 1073741824 := hw
      simp only [PxT.kind, PxT.n, PxT.s, PxT.kids] at *
      have HR : ∀ W, Below w.heap.size w W → GData.R lo W [.slice (some ⟨nb, no, none⟩) d.nodes.length c] d := fun W hW => ⟨_, rfl, trivial, Hu.below GDNode.good hW⟩
      rcases hk with ⟨e, hk⟩ | ⟨e, hk⟩ | ⟨e, hk⟩ | ⟨e, x, y, hk⟩ | ⟨e, hk | ⟨x, hk, hx5⟩⟩
      · subst e; rw [textT_int]
        exact stext_leaf nb no d.nodes.length c i 3 n s ka _ kc w hi hL R1 hn (by omega) _ (.inl ⟨rfl, rfl⟩)
      · subst e; rw [textT_str]
        exact stext_leaf nb no d.nodes.length c i 2 n s ka _ kc w hi hL R1 hn (by omega) _ (.inr (.inl ⟨rfl, rfl⟩))
      · subst e; rw [textT_unit]
        exact stext_leaf nb no d.nodes.length c i 6 n s ka _ kc w hi hL R1 hn (by omega) _ (.inr (.inr (.inl ⟨rfl, rfl⟩)))
      · subst e
        match ks, hk with
        | [p, q], hk =>
          obtain ⟨rfl, rfl⟩ : treeOf d.nodes f p.toNat = x ∧ treeOf d.nodes f q.toNat = y := by simpa using hk
          have hp := hup p (by simp)
          have hq := hup q (by simp)
          obtain ⟨p, rfl⟩ : ∃ p' : Nat, p = p' := ⟨p.toNat, by omega⟩
          obtain ⟨q, rfl⟩ : ∃ q' : Nat, q = q' := ⟨q.toNat, by omega⟩
          simp only [List.map_cons, List.map_nil, Int.toNat_natCast] at *
          rw [textT_pair]
          obtain ⟨kb, ko, z0, s0, _, rfl, Q0, ⟨rfl, _⟩, q0⟩ := k0.get (k := 0) (Lib.hid rfl) (by simp)
          obtain ⟨kb', ko', z1, s1, _, hh, Q1, ⟨rfl, _⟩, q1⟩ := k0.get (k := 1) (Lib.hid rfl) (by simp)
          obtain ⟨rfl, rfl⟩ : kb = kb' ∧ ko = ko' := by injection hh with h; injection h with h1 h2; exact ⟨h1, h2⟩
          obtain rfl : (p : Int) = z0 := by have := Q0.out; simpa using this
          obtain rfl : (q : Int) = z1 := by have := Q1.out; simpa using this
          have t0 := hkids _ (show treeOf d.nodes f p ∈ [treeOf d.nodes f p, treeOf d.nodes f q] by simp)
          have t1 := hkids _ (show treeOf d.nodes f q ∈ [treeOf d.nodes f p, treeOf d.nodes f q] by simp)
          simp at hwt
          have l0 := textT_len f _ t0
          have l1 := textT_len f _ t1
          exact stext_pair nb no d.nodes.length c i kb ko kc p q n s _ _ w hi hL R1 (by simpa using q0 0 _ rfl) (by simpa using q1 0 _ rfl) (by omega) (by omega)
            (fun W hW => ih f (by omega) p (by omega) (by omega) t0 (by omega) _ lo W (HR W hW)) (fun W hW => ih f (by omega) q (by omega) (by omega) t1 (by omega) _ lo W (HR W hW))
        | [], hk => simp at hk
        | [_], hk => simp at hk
        | _ :: _ :: _ :: _, hk => simp at hk
      · subst e
        have : ks = [] := by simpa using hk
        subst this
        rw [show (([] : List Int).map fun k => treeOf d.nodes f k.toNat) = [] from rfl, textT_nil]
        exact stext_leaf nb no d.nodes.length c i 4 n s ka 0 kc w hi hL R1 hn (by omega) _ (.inr (.inr (.inr ⟨rfl, rfl, rfl⟩)))
      · subst e
        match ks, hk with
        | [p], hk =>
          obtain rfl : treeOf d.nodes f p.toNat = x := by simpa using hk
          have hp := hup p (by simp)
          obtain ⟨p, rfl⟩ : ∃ p' : Nat, p = p' := ⟨p.toNat, by omega⟩
          simp only [List.map_cons, List.map_nil, Int.toNat_natCast] at *
          obtain ⟨kb, ko, z0, s0, _, rfl, Q0, ⟨rfl, _⟩, q0⟩ := k0.get (k := 0) (Lib.hid rfl) (by simp)
          obtain rfl : (p : Int) = z0 := by have := Q0.out; simpa using this
          have t0 := hkids _ (show treeOf d.nodes f p ∈ [treeOf d.nodes f p] by simp)
          simp at hwt
          by_cases hs : (s.toList == sCons) = true
          · have e5 := hx5 hs
            match f, t0, e5, hwt with
            | f + 1, t0, e5, hwt =>
              obtain ⟨nb', no', y, r5, _, hh, P5, hy, R5⟩ := h0.get (k := p) (Lib.hid rfl) (by omega)
              obtain ⟨rfl, rfl⟩ : nb = nb' ∧ no = no' := by injection hh with h; injection h with h1 h2; exact ⟨h1, h2⟩
              have P5 := P5.out
              have hup5 := hU p y P5
              rw [treeOf_some P5] at t0 e5 hwt ⊢
              obtain ⟨kd5, n5, s5, ks5⟩ := y
              obtain ⟨u5, rfl, _, hkd5⟩ := hy
              obtain ⟨ka5, kc5, rfl, kl5, km5, k5⟩ := hkd5
              simp only [PxT.kind, PxT.n, PxT.s, PxT.kids] at *
              subst e5
              obtain ⟨_, hk5, hkids5⟩ := t0
              simp only [PxT.kind, PxT.n, PxT.s, PxT.kids] at *
              have hk5' : ∃ a b, (ks5.map fun k => treeOf d.nodes f k.toNat) = [a, b] := by
                rcases hk5 with ⟨e, _⟩ | ⟨e, _⟩ | ⟨e, _⟩ | ⟨_, h⟩ | ⟨e, _⟩
                · omega
                · omega
                · omega
                · exact h
                · omega
              obtain ⟨x0, x1, hk5'⟩ := hk5'
              match ks5, hk5' with
              | [g0, g1], hk5' =>
                obtain ⟨rfl, rfl⟩ : treeOf d.nodes f g0.toNat = x0 ∧ treeOf d.nodes f g1.toNat = x1 := by simpa using hk5'
                have hg0 := hup5 g0 (by simp)
                have hg1 := hup5 g1 (by simp)
                obtain ⟨g0, rfl⟩ : ∃ p' : Nat, g0 = p' := ⟨g0.toNat, by omega⟩
                obtain ⟨g1, rfl⟩ : ∃ p' : Nat, g1 = p' := ⟨g1.toNat, by omega⟩
                simp only [List.map_cons, List.map_nil, Int.toNat_natCast] at *
                rw [textT_cons _ _ _ _ _ _ _ hs]
                obtain ⟨kb2, ko2, z2, s2, _, rfl, Q2, ⟨rfl, _⟩, q2⟩ := k5.get (k := 0) (Lib.hid rfl) (by simp)
                obtain ⟨kb3, ko3, z3, s3, _, hh3, Q3, ⟨rfl, _⟩, q3⟩ := k5.get (k := 1) (Lib.hid rfl) (by simp)
                obtain ⟨rfl, rfl⟩ : kb2 = kb3 ∧ ko2 = ko3 := by injection hh3 with h; injection h with h1 h2; exact ⟨h1, h2⟩
                obtain rfl : (g0 : Int) = z2 := by have := Q2.out; simpa using this
                obtain rfl : (g1 : Int) = z3 := by have := Q3.out; simpa using this
                have t2 := hkids5 _ (show treeOf d.nodes f g0 ∈ [treeOf d.nodes f g0, treeOf d.nodes f g1] by simp)
                have t3 := hkids5 _ (show treeOf d.nodes f g1 ∈ [treeOf d.nodes f g0, treeOf d.nodes f g1] by simp)
                have hw5 : wt (f + 1) (.mk 5 n5 s5 [treeOf d.nodes f g0, treeOf d.nodes f g1]) = 4 * s5.size + 30 + (wt f (treeOf d.nodes f g0) + wt f (treeOf d.nodes f g1)) := by
                  show 4 * s5.size + 30 + ([treeOf d.nodes f g0, treeOf d.nodes f g1].map (wt f)).sum = _
                  simp
                have l2 := textT_len f _ t2
                have l3 := textT_len f _ t3
                exact stext_cons nb no d.nodes.length c i p kb ko kc kb2 ko2 kc5 g0 g1 n n5 s s5 _ _ w hi (by omega) hL R1 R5 (by simpa using q0 0 _ rfl) hs (by simpa using q2 0 _ rfl) (by simpa using q3 0 _ rfl) (by omega) (by omega)
                  (fun W hW => ih f (by omega) g0 (by omega) (by omega) t2 (by omega) _ lo W (HR W hW)) (fun W hW => ih f (by omega) g1 (by omega) (by omega) t3 (by omega) _ lo W (HR W hW))
              | [], hk => simp at hk
              | [_], hk => simp at hk
              | _ :: _ :: _ :: _, hk => simp at hk
          · rw [textT_con _ _ _ _ (by simpa using hs)]
            have l0 := textT_len f _ t0
            exact stext_con nb no d.nodes.length c i kb ko kc p n s _ w hi hL R1 (by simpa using q0 0 _ rfl) (by simpa using hs) (by omega) (by omega)
              (fun W hW => ih f (by omega) p (by omega) (by omega) t0 (by omega) _ lo W (HR W hW))
        | [], hk => simp at hk
        | _ :: _ :: _, hk => simp at hk

end Go.Proofs.Ytpblhonnknmjjaa

/- DataText of both. -/
namespace Go.Proofs.Ytpblhonnknmjjaa
open Go.RowKit
set_option linter.unusedVariables false
set_option linter.unusedSimpArgs false
attribute [local go_sem] Ext.cell

/-- The text of a right value, none of what is none. -/
def dataText (d : GData) : ByteArray := if dataOk d then textT d.nodes.length (treeOf d.nodes d.nodes.length 0) else ByteArray.empty

theorem data_wf {d : GData} {r : List Value} {lo : Nat} {w : World} (hr : GData.R lo w r d) : ∀ (j : Nat) x, d.nodes[j]? = some x → x.wf := by
  intro j x hx
  obtain ⟨u, rfl, -, hu⟩ := hr
  obtain ⟨a, c, rfl, ul, um, h0⟩ := hu
  have hj := (List.getElem?_eq_some_iff.1 hx).1
  obtain ⟨b, o, y, s, _, _, P, ⟨_, _, hy, _⟩, _⟩ := h0.get (Lib.hid rfl) hj
  obtain rfl : x = y := Option.some.inj (hx.symm.trans P.out)
  exact hy

set_option maxRecDepth 100000 in
set_option maxHeartbeats 4000000 in
theorem impl_DataText_c (d : GData) (r : List Value) (lo : Nat) (hbk : d.bulk ≤ 1048576) (w : World) (hr : GData.R lo w r d) :
    Calls Try.prog 10 #[.agg r.toArray] w fun e w' => e = .returned (.string (dataText d)) ∧ Below w.heap.size w w' := by
  have hd : d.nodes.length ≤ 1152921504606846976 := by have := length_le_bulkS GDNode.bulk_nonneg d.nodes; unfold GData.bulk at hbk; omega
  have c1 := fun W (hW : Below w.heap.size w W) => DataOk_c d hd r lo W (GData.good.below hr hW)
  unfold dataText
  cases hok : dataOk d with
  | false =>
    rw [hok] at c1
    obtain ⟨u, rfl, -, hu⟩ := hr
    obtain ⟨a, c, rfl⟩ := hu.form
    clear hu hbk
    replace c1 := Lib.hid c1
    generalize d.nodes.length = n at *
    go_enter Try.func10, Try.ntmps10
    go_upto_region 1 with fail
    have B : RowAt (w.alloc (.cells #[.slice a n c] 25)) (w.heap.size) 0 [.slice a n c] := RowAt.box w #[.slice a n c] 25
    have hw : Below w.heap.size w (w.alloc (.cells #[.slice a n c] 25)) := by go_grown
    generalize (w.alloc (.cells #[.slice a n c] 25)) = w0 at *
    have b_0 := B.box1; have hsB := World.block_lt_of_cell? _ _ b_0; dsimp only at hsB
    go_wp2_with (go_at_call 22; ((with_reducible refine (c1.out _ hw).mono ?_); rintro e w1 ⟨rfl, hb⟩; have hw := hw.trans (hb.mono hw.size); have B := B.below hb; have b_0 := B.box1; have hsB := World.block_lt_of_cell? _ _ b_0; dsimp only at hsB; clear hb))
    go_returns
    exact ⟨rfl, hw⟩
  | true =>
    rw [hok] at c1
    obtain ⟨hU, h0, hL⟩ := dataOk_up hok
    have hfew := dataOk_few hok
    have htok := treeOf_tok d.nodes hU (dataOk_nodes hok) (data_wf hr) d.nodes.length 0 h0 (by omega)
    have hwt := wt_data hok hbk
    have Hr := hr
    obtain ⟨u, rfl, -, hu⟩ := hr
    have c2 : ∀ W, Below w.heap.size w W → Calls Try.prog 27 #[u, .int .i64 0] W fun e w' => ∃ b, e = .returned (.pointer (some ⟨b, 0, none⟩)) ∧ PxR d.nodes.length (fun b => W.heap.size ≤ b) w' (.pointer (some ⟨b, 0, none⟩)) (treeOf d.nodes d.nodes.length 0) ∧ Below W.heap.size W w' := fun W hW => growData_c d.nodes hU hfew hL d.nodes.length 0 u lo W (hu.below GDNode.good hW) h0 (by omega)
    have c3 := fun v S W (hW : PxR d.nodes.length S W v (treeOf d.nodes d.nodes.length 0)) => dataText_c d.nodes.length S v (treeOf d.nodes d.nodes.length 0) W hW htok hwt
    obtain ⟨a, c, rfl⟩ := hu.form
    clear hu Hr hU hfew hok htok hwt hbk
    generalize d.nodes.length = n at *
    generalize treeOf d.nodes n 0 = t at *
    generalize textT n t = dd at *
    replace c1 := Lib.hid c1; replace c2 := Lib.hid c2; replace c3 := Lib.hid c3
    go_enter Try.func10, Try.ntmps10
    go_upto_region 1 with fail
    have B : RowAt (w.alloc (.cells #[.slice a n c] 25)) (w.heap.size) 0 [.slice a n c] := RowAt.box w #[.slice a n c] 25
    have hw : Below w.heap.size w (w.alloc (.cells #[.slice a n c] 25)) := by go_grown
    generalize (w.alloc (.cells #[.slice a n c] 25)) = w0 at *
    have b_0 := B.box1; have hsB := World.block_lt_of_cell? _ _ b_0; dsimp only at hsB
    go_wp2_with (first | (go_at_call 22; ((with_reducible refine (c1.out _ hw).mono ?_); rintro e w1 ⟨rfl, hb⟩; have hw := hw.trans (hb.mono hw.size); have B := B.below hb; have b_0 := B.box1; have hsB := World.block_lt_of_cell? _ _ b_0; dsimp only at hsB; clear hb)) | (go_at_call 27; ((with_reducible refine (c2.out _ hw).mono ?_); rintro e w1 ⟨pb, rfl, hP, hb⟩; have hw := hw.trans (hb.mono hw.size); have B := B.below hb; have b_0 := B.box1; have hsB := World.block_lt_of_cell? _ _ b_0; dsimp only at hsB; clear hb)) | (go_at_call 26; ((with_reducible refine (c3.out _ _ _ hP).mono ?_); rintro e w1 ⟨rfl, hb⟩; have hw := hw.trans (hb.mono hw.size); have B := B.below hb; have b_0 := B.box1; have hsB := World.block_lt_of_cell? _ _ b_0; dsimp only at hsB; clear hb)))
    go_returns
    exact ⟨rfl, hw⟩

set_option maxRecDepth 100000 in
set_option maxHeartbeats 4000000 in
theorem spec_DataText_c (d : GData) (r : List Value) (lo : Nat) (hbk : d.bulk ≤ 1048576) (w : World) (hr : GData.R lo w r d) :
    Calls Try.prog 12 #[.agg r.toArray] w fun e w' => e = .returned (.string (dataText d)) ∧ Below w.heap.size w w' := by
  have hd : d.nodes.length ≤ 1152921504606846976 := by have := length_le_bulkS GDNode.bulk_nonneg d.nodes; unfold GData.bulk at hbk; omega
  have c1 := fun W (hW : Below w.heap.size w W) => specDataOk_c d hd r lo W (GData.good.below hr hW)
  unfold dataText
  cases hok : dataOk d with
  | false =>
    rw [hok] at c1
    obtain ⟨u, rfl, -, hu⟩ := hr
    obtain ⟨a, c, rfl⟩ := hu.form
    clear hu hbk
    replace c1 := Lib.hid c1
    generalize d.nodes.length = n at *
    go_enter Try.func12, Try.ntmps12
    go_upto_region 1 with fail
    have B : RowAt (w.alloc (.cells #[.slice a n c] 25)) (w.heap.size) 0 [.slice a n c] := RowAt.box w #[.slice a n c] 25
    have hw : Below w.heap.size w (w.alloc (.cells #[.slice a n c] 25)) := by go_grown
    generalize (w.alloc (.cells #[.slice a n c] 25)) = w0 at *
    have b_0 := B.box1; have hsB := World.block_lt_of_cell? _ _ b_0; dsimp only at hsB
    go_wp2_with (go_at_call 9; ((with_reducible refine (c1.out _ hw).mono ?_); rintro e w1 ⟨rfl, hb⟩; have hw := hw.trans (hb.mono hw.size); have B := B.below hb; have b_0 := B.box1; have hsB := World.block_lt_of_cell? _ _ b_0; dsimp only at hsB; clear hb))
    go_returns
    exact ⟨rfl, hw⟩
  | true =>
    rw [hok] at c1
    obtain ⟨hU, h0, hL⟩ := dataOk_up hok
    have htok := treeOf_tok d.nodes hU (dataOk_nodes hok) (data_wf hr) d.nodes.length 0 h0 (by omega)
    have hwt := wt_data hok hbk
    have c2 : ∀ W, Below w.heap.size w W → Calls Try.prog 28 #[.agg r.toArray, .int .i64 0] W fun e w' => e = .returned (.string (textT d.nodes.length (treeOf d.nodes d.nodes.length 0))) ∧ Below W.heap.size W w' := fun W hW => l21Text_c d hU hL d.nodes.length 0 h0 (by omega) htok hwt r lo W (GData.good.below hr hW)
    obtain ⟨u, rfl, -, hu⟩ := hr
    obtain ⟨a, c, rfl⟩ := hu.form
    clear hu hU hok htok hwt hbk
    generalize d.nodes.length = n at *
    generalize textT n (treeOf d.nodes n 0) = dd at *
    replace c1 := Lib.hid c1; replace c2 := Lib.hid c2
    go_enter Try.func12, Try.ntmps12
    go_upto_region 1 with fail
    have B : RowAt (w.alloc (.cells #[.slice a n c] 25)) (w.heap.size) 0 [.slice a n c] := RowAt.box w #[.slice a n c] 25
    have hw : Below w.heap.size w (w.alloc (.cells #[.slice a n c] 25)) := by go_grown
    generalize (w.alloc (.cells #[.slice a n c] 25)) = w0 at *
    have b_0 := B.box1; have hsB := World.block_lt_of_cell? _ _ b_0; dsimp only at hsB
    go_wp2_with (first | (go_at_call 9; ((with_reducible refine (c1.out _ hw).mono ?_); rintro e w1 ⟨rfl, hb⟩; have hw := hw.trans (hb.mono hw.size); have B := B.below hb; have b_0 := B.box1; have hsB := World.block_lt_of_cell? _ _ b_0; dsimp only at hsB; clear hb)) | (go_at_call 28; ((with_reducible refine (c2.out _ hw).mono ?_); rintro e w1 ⟨rfl, hb⟩; have hw := hw.trans (hb.mono hw.size); have B := B.below hb; have b_0 := B.box1; have hsB := World.block_lt_of_cell? _ _ b_0; dsimp only at hsB; clear hb)))
    go_returns
    exact ⟨rfl, hw⟩

end Go.Proofs.Ytpblhonnknmjjaa

/- Values are recovered from their texts: a reader in plain Lean, and what it reads of a right value's text. -/
namespace Go.Proofs.Ytpblhonnknmjjaa
open Go.RowKit
set_option linter.unusedVariables false
set_option linter.unusedSimpArgs false

/-- A byte that ends a word: space, comma, either parenthesis. -/
def stopB (b : UInt8) : Bool := b == 32 || b == 44 || b == 41 || b == 40
def wOf (l : List UInt8) : List UInt8 := l.takeWhile fun b => !stopB b
def wRest (l : List UInt8) : List UInt8 := l.dropWhile fun b => !stopB b
def isAt (t l : List UInt8) : Bool := t.isPrefixOf l
def kColons : List UInt8 := [32, 58, 58, 32]
def kComma : List UInt8 := [44, 32]
def In63 (n : Int) : Prop := -4611686018427387904 ≤ n ∧ n ≤ 4611686018427387903
def numL (n : Int) : List UInt8 := (numText n).data.toList
open Classical in
noncomputable def textNum (l : List UInt8) : Option Int := if h : ∃ n, In63 n ∧ numL n = l then some h.choose else none
open Classical in
noncomputable def unquote (l : List UInt8) : Option ByteArray := if h : ∃ s : ByteArray, (quoteS s).data.toList = l then some h.choose else none
/-- From behind the first quote to behind the last. -/
def scanQ : List UInt8 → Option (List UInt8 × List UInt8)
  | [] => none
  | b :: l => if b = 34 then some ([34], l) else if b = 92 then (match l with
    | [] => none
    | c :: r => (scanQ r).map fun p => (92 :: c :: p.1, p.2)) else (scanQ l).map fun p => (b :: p.1, p.2)
def upHead (l : List UInt8) : Bool := match l with
  | [] => false
  | b :: _ => decide (65 ≤ b.toNat ∧ b.toNat ≤ 90)
def tInt (n : Int) : PxT := .mk 3 n ByteArray.empty []
def tStr (s : ByteArray) : PxT := .mk 2 0 s []
def tUnit : PxT := .mk 6 0 ByteArray.empty []
def tCon0 (s : ByteArray) : PxT := .mk 4 0 s []
def tPair (a b : PxT) : PxT := .mk 5 0 ByteArray.empty [a, b]
def tCons (a b : PxT) : PxT := .mk 4 0 ⟨sCons.toArray⟩ [tPair a b]
def tCon1 (s : ByteArray) (a : PxT) : PxT := .mk 4 0 s [a]
abbrev Rd := List UInt8 → Option (PxT × List UInt8)
/-- What stands behind a parenthesis. -/
def readIn (rd : Rd) : Rd := fun l =>
  if isAt [41] l then some (tUnit, l.drop 1)
  else if (upHead l && (isAt [32] (wRest l) && !isAt kColons (wRest l))) = true then
    match rd ((wRest l).drop 1) with
    | none => none
    | some (k, r) => if isAt [41] r then some (tCon1 ⟨(wOf l).toArray⟩ k, r.drop 1) else none
  else match rd l with
    | none => none
    | some (a, r) =>
      if isAt kColons r then match rd (r.drop 4) with
        | none => none
        | some (b, r2) => if isAt [41] r2 then some (tCons a b, r2.drop 1) else none
      else if isAt kComma r then match rd (r.drop 2) with
        | none => none
        | some (b, r2) => if isAt [41] r2 then some (tPair a b, r2.drop 1) else none
      else none
open Classical in
/-- The reference's reader: f more parentheses may be opened. -/
noncomputable def readS : Nat → Rd
  | 0, _ => none
  | f + 1, l => match l with
    | [] => none
    | b :: l' => if b = 40 then readIn (readS f) l'
      else if b = 34 then match scanQ l' with
        | none => none
        | some (p, r) => match unquote (34 :: p) with
          | none => none
          | some s => some (tStr s, r)
      else match textNum (wOf l) with
        | some n => some (tInt n, wRest l)
        | none => some (tCon0 ⟨(wOf l).toArray⟩, wRest l)

/-! ### What may stand behind a value -/
def GoodR (r : List UInt8) : Prop := ∀ b l, r = b :: l → stopB b = true
theorem goodR_nil : GoodR [] := fun b l h => by cases h
theorem goodR_cons {b : UInt8} {l : List UInt8} (h : stopB b = true) : GoodR (b :: l) := fun c m e => by injection e with e1 e2; rw [← e1]; exact h
theorem span_word : ∀ {w r : List UInt8}, (∀ b ∈ w, stopB b = false) → GoodR r → wOf (w ++ r) = w ∧ wRest (w ++ r) = r
  | [], r, _, h => by
    cases r with
    | nil => exact ⟨rfl, rfl⟩
    | cons b l =>
      have := h b l rfl
      simp [wOf, wRest, this]
  | c :: w, r, h0, h => by
    have hc := h0 c (by simp)
    obtain ⟨h1, h2⟩ := span_word (w := w) (r := r) (fun b hb => h0 b (by simp [hb])) h
    unfold wOf at h1 ⊢
    unfold wRest at h2 ⊢
    simp only [List.cons_append, List.takeWhile_cons, List.dropWhile_cons, hc, Bool.not_false, if_true, h1, h2, and_self]
theorem isAt_self (t r : List UInt8) : isAt t (t ++ r) = true := by unfold isAt; simp
theorem isAt_one {b : UInt8} {l : List UInt8} {c : UInt8} : isAt [c] (b :: l) = (c == b) := by simp [isAt, List.isPrefixOf]

/-! ### Numbers -/
def digVal (b : UInt8) : Nat := b.toNat - 48
def revVal : List UInt8 → Nat
  | [] => 0
  | b :: l => digVal b + 10 * revVal l
theorem revVal_revd (n : Nat) : revVal (revd n) = n := by
  induction n using Nat.strongRecOn with
  | _ n ih =>
    by_cases h : n < 10
    · rw [revd_small h]
      show digVal (dig n) + 10 * 0 = n
      unfold digVal
      rw [dig_toNat]
      omega
    · rw [revd_step h]
      show digVal (dig n) + 10 * revVal (revd (n / 10)) = n
      rw [ih (n / 10) (by omega)]
      unfold digVal
      rw [dig_toNat]
      omega
theorem revd_digits : ∀ (m n : Nat), n ≤ m → ∀ b ∈ revd n, 48 ≤ b.toNat ∧ b.toNat ≤ 57
  | m, n, hm, b, hb => by
    by_cases h : n < 10
    · rw [revd_small h] at hb
      simp at hb; subst hb
      rw [dig_toNat]; omega
    · rw [revd_step h] at hb
      rcases List.mem_cons.1 hb with rfl | hb
      · rw [dig_toNat]; omega
      · exact revd_digits (n / 10) (n / 10) (Nat.le_refl _) b hb
termination_by _ n => n
theorem revd_ne (n : Nat) : revd n ≠ [] := by
  by_cases h : n < 10
  · rw [revd_small h]; simp
  · rw [revd_step h]; simp
theorem numS_list (n : Nat) : (numS n).data.toList = (revd n).reverse := rfl
theorem numL_eq {n : Int} (h : In63 n) : numL n = if n < 0 then 45 :: (revd n.natAbs).reverse else (revd n.natAbs).reverse := by
  unfold numL numText
  rw [if_pos (by unfold In63 at h; omega)]
  split
  · rw [ByteArray.data_append]
    rw [Array.toList_append]
    rfl
  · rfl
theorem numL_ne {n : Int} (h : In63 n) : numL n ≠ [] := by
  rw [numL_eq h]
  split
  · simp
  · simpa using revd_ne _
theorem numL_bytes {n : Int} (h : In63 n) : ∀ b ∈ numL n, b.toNat = 45 ∨ (48 ≤ b.toNat ∧ b.toNat ≤ 57) := by
  rw [numL_eq h]
  intro b hb
  split at hb
  · rcases List.mem_cons.1 hb with rfl | hb
    · exact .inl rfl
    · exact .inr (revd_digits _ _ (Nat.le_refl _) b (by simpa using hb))
  · exact .inr (revd_digits _ _ (Nat.le_refl _) b (by simpa using hb))
theorem numL_inj {n m : Int} (hn : In63 n) (hm : In63 m) (h : numL n = numL m) : n = m := by
  have key : ∀ a b : Nat, (revd a).reverse = (revd b).reverse → a = b := fun a b h => by
    have h := List.reverse_inj.1 h
    rw [← revVal_revd a, ← revVal_revd b, h]
  have hd : ∀ (a : Nat) (l : List UInt8), (revd a).reverse ≠ 45 :: l := fun a l h => by
    have : (45 : UInt8) ∈ (revd a).reverse := by rw [h]; simp
    have := revd_digits _ _ (Nat.le_refl _) 45 (by simpa using this)
    simp at this
  rw [numL_eq hn, numL_eq hm] at h
  split at h <;> split at h
  · injection h with _ h; have := key _ _ h; omega
  · exact absurd h.symm (hd _ _)
  · exact absurd h (hd _ _)
  · have := key _ _ h; omega
theorem textNum_num {n : Int} (h : In63 n) : textNum (numL n) = some n := by
  unfold textNum
  have h0 : ∃ m, In63 m ∧ numL m = numL n := ⟨n, h, rfl⟩
  rw [dif_pos h0]
  exact congrArg some (numL_inj h0.choose_spec.1 h h0.choose_spec.2)
theorem textNum_no {b : UInt8} {l : List UInt8} (h1 : b.toNat ≠ 45) (h2 : ¬ (48 ≤ b.toNat ∧ b.toNat ≤ 57)) : textNum (b :: l) = none := by
  unfold textNum
  rw [dif_neg]
  rintro ⟨n, hn, he⟩
  have := numL_bytes hn b (by rw [he]; simp)
  omega

/-! ### Strings -/
theorem hxB_toNat {d : Nat} (h : d ≤ 15) : (hxB d).toNat = if d < 10 then 48 + d else 87 + d := by
  unfold hxB hxI
  have : ((if (d : Int) < 10 then 48 + (d : Int) else 87 + (d : Int)) : Int).toNat = if d < 10 then 48 + d else 87 + d := by split <;> split <;> omega
  rw [this, UInt8.toNat_ofNat', Nat.mod_eq_of_lt (by split <;> omega)]
theorem scanQ_step (b : UInt8) (l : List UInt8) : scanQ (quoteB b ++ l) = (scanQ l).map fun p => (quoteB b ++ p.1, p.2) := by
  have hlt := b.toNat_lt
  unfold quoteB
  have ne : ∀ (x : UInt8) (k : UInt8), x.toNat ≠ k.toNat → ¬ x = k := fun x k h e => h (by rw [e])
  have plain : ∀ (x : UInt8) (m : List UInt8), x.toNat ≠ 34 → x.toNat ≠ 92 → scanQ (x :: m) = (scanQ m).map fun p => (x :: p.1, p.2) := fun x m h1 h2 => by
    conv => lhs; unfold scanQ
    rw [if_neg (ne x 34 h1), if_neg (ne x 92 h2)]
  have esc : ∀ (x : UInt8) (m : List UInt8), scanQ (92 :: x :: m) = (scanQ m).map fun p => (92 :: x :: p.1, p.2) := fun x m => by
    conv => lhs; unfold scanQ
    rw [if_neg (by decide), if_pos rfl]
  split
  · exact esc 110 l
  · split
    · exact esc b l
    · split
      · exact plain b l (by omega) (by omega)
      · show scanQ (92 :: 120 :: hxB (b.toNat / 16) :: hxB (b.toNat % 16) :: l) = _
        have h1 := hxB_toNat (d := b.toNat / 16) (by omega)
        have h2 := hxB_toNat (d := b.toNat % 16) (by omega)
        rw [esc, plain _ _ (by rw [h1]; split <;> omega) (by rw [h1]; split <;> omega), plain _ _ (by rw [h2]; split <;> omega) (by rw [h2]; split <;> omega)]
        cases scanQ l <;> rfl
theorem scanQ_quote (r : List UInt8) : ∀ (l : List UInt8), scanQ (l.flatMap quoteB ++ (34 :: r)) = some (l.flatMap quoteB ++ [34], r)
  | [] => by
    show scanQ (34 :: r) = _
    unfold scanQ
    rw [if_pos rfl]; rfl
  | b :: l => by
    have e : (b :: l).flatMap quoteB = quoteB b ++ l.flatMap quoteB := by simp
    rw [e, List.append_assoc, scanQ_step, scanQ_quote r l]
    simp
theorem quoteB_ways (b : UInt8) : (b = 10 ∧ quoteB b = [92, 110]) ∨ ((b = 34 ∨ b = 92) ∧ quoteB b = [92, b]) ∨ ((32 ≤ b.toNat ∧ b.toNat ≤ 126 ∧ b ≠ 92) ∧ quoteB b = [b]) ∨ quoteB b = [92, 120, hxB (b.toNat / 16), hxB (b.toNat % 16)] := by
  have eqn : ∀ x y : UInt8, x.toNat = y.toNat → x = y := fun x y h => UInt8.toNat_inj.1 h
  unfold quoteB
  by_cases h1 : (b.toNat : Int) = 10
  · rw [if_pos h1]; exact .inl ⟨eqn _ _ (by show b.toNat = 10; omega), rfl⟩
  · rw [if_neg h1]
    by_cases h2 : (b.toNat : Int) = 34 ∨ (b.toNat : Int) = 92
    · rw [if_pos h2]
      refine .inr (.inl ⟨?_, rfl⟩)
      rcases h2 with h2 | h2
      · exact .inl (eqn _ _ (by show b.toNat = 34; omega))
      · exact .inr (eqn _ _ (by show b.toNat = 92; omega))
    · rw [if_neg h2]
      by_cases h3 : 32 ≤ (b.toNat : Int) ∧ (b.toNat : Int) ≤ 126
      · rw [if_pos h3]
        exact .inr (.inr (.inl ⟨⟨by omega, by omega, fun e => h2 (.inr (by rw [e]; decide))⟩, rfl⟩))
      · rw [if_neg h3]; exact .inr (.inr (.inr rfl))
theorem quoteB_inj {b c : UInt8} {l m : List UInt8} (h : quoteB b ++ l = quoteB c ++ m) : b = c ∧ l = m := by
  have hb := b.toNat_lt
  have hc := c.toNat_lt
  have eqn : ∀ x y : UInt8, x.toNat = y.toNat → x = y := fun x y h => UInt8.toNat_inj.1 h
  have tn : ∀ {x y : UInt8}, x = y → x.toNat = y.toNat := fun h => by rw [h]
  rcases quoteB_ways b with ⟨hb1, e1⟩ | ⟨hb1, e1⟩ | ⟨⟨_, _, hb1⟩, e1⟩ | e1 <;> rcases quoteB_ways c with ⟨hc1, e2⟩ | ⟨hc1, e2⟩ | ⟨⟨_, _, hc1⟩, e2⟩ | e2
  all_goals rw [e1, e2] at h; simp only [List.cons_append, List.nil_append, List.cons.injEq, true_and] at h
  · exact ⟨by rw [hb1, hc1], h⟩
  · exfalso; rcases hc1 with rfl | rfl <;> exact absurd h.1 (by decide)
  · exact absurd h.1.symm hc1
  · exact absurd h.1 (by decide)
  · exfalso; rcases hb1 with rfl | rfl <;> exact absurd h.1 (by decide)
  · exact h
  · exact absurd h.1.symm hc1
  · exfalso; rcases hb1 with rfl | rfl <;> exact absurd h.1 (by decide)
  · exact absurd h.1 hb1
  · exact absurd h.1 hb1
  · exact h
  · exact absurd h.1 hb1
  · exact absurd h.1 (by decide)
  · exfalso; rcases hc1 with rfl | rfl <;> exact absurd h.1 (by decide)
  · exact absurd h.1.symm hc1
  · obtain ⟨e1, e2, h⟩ := h
    have e1 := tn e1; have e2 := tn e2
    rw [hxB_toNat (by omega), hxB_toNat (by omega)] at e1 e2
    refine ⟨eqn _ _ ?_, h⟩
    split at e1 <;> split at e1 <;> split at e2 <;> split at e2 <;> omega
theorem flat_inj : ∀ {l m : List UInt8} {r q : List UInt8}, l.flatMap quoteB ++ (34 :: r) = m.flatMap quoteB ++ (34 :: q) → l = m ∧ r = q
  | [], [], r, q, h => by injection h with _ h; exact ⟨rfl, h⟩
  | [], c :: m, r, q, h => by
    exfalso
    have h1 := scanQ_quote r []
    rw [h, scanQ_quote q (c :: m)] at h1
    have h2 := congrArg (fun o => o.map fun p => p.1.length) h1
    have h3 := (quoteB_len c).2
    simp at h2
    omega
  | b :: l, [], r, q, h => by
    exfalso
    have h1 := scanQ_quote q []
    rw [← h, scanQ_quote r (b :: l)] at h1
    have h2 := congrArg (fun o => o.map fun p => p.1.length) h1
    have h3 := (quoteB_len b).2
    simp at h2
    omega
  | b :: l, c :: m, r, q, h => by
    simp only [List.flatMap_cons, List.append_assoc] at h
    obtain ⟨rfl, h2⟩ := quoteB_inj h
    obtain ⟨h3, h4⟩ := flat_inj h2
    exact ⟨by rw [h3], h4⟩
theorem quoteS_list (s : ByteArray) : (quoteS s).data.toList = 34 :: (s.data.toList.flatMap quoteB ++ [34]) := by unfold quoteS quoteL; simp
theorem quoteS_inj {s t : ByteArray} (h : (quoteS s).data.toList = (quoteS t).data.toList) : s = t := by
  rw [quoteS_list, quoteS_list] at h
  injection h with _ h
  have := (flat_inj h).1
  exact ByteArray.ext (Array.ext' this)
theorem unquote_quote (s : ByteArray) : unquote (quoteS s).data.toList = some s := by
  unfold unquote
  have h0 : ∃ t : ByteArray, (quoteS t).data.toList = (quoteS s).data.toList := ⟨s, rfl⟩
  rw [dif_pos h0]
  exact congrArg some (quoteS_inj h0.choose_spec)

end Go.Proofs.Ytpblhonnknmjjaa

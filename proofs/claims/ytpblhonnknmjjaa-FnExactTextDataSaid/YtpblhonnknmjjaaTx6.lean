/- Parts of the proof, merged: MarkOwnInt, MarkD, MarkE, Num, Num2, Num3. -/
import Derived.Laws.IdiomStrings
import Derived.RegionTactic
import Derived.Deep.LoopGhost
import Derived.Deep.RegionLaw
import Derived.IntWalk
import Derived.Test.YtpblhonnknmjjaaTx5
/- Marks of slices of Int that the call owns, nil or not: printed by gen_markown.py. -/
namespace Go.Proofs.Ytpblhonnknmjjaa
open Go.RowKit
set_option linter.unusedVariables false
set_option linter.unusedSimpArgs false
attribute [local go_sem] Ext.cell

set_option maxHeartbeats 1000000 in
theorem markIntS_nil (z : Int) (w : World) :
    Calls Try.prog 67 #[.slice none 0 0, .int .i64 z] w fun e w' => e = .returned (.int .i64 z) ∧ Below w.heap.size w w' := by
  go_enter Try.func67, Try.ntmps67
  go_wp2_with fail
  go_loopw [1, 5] (fun kk i wr => kk = .int .i64 z ∧ i = .int .i64 0 ∧ Below w.heap.size w wr) (fun _ _ _ => 0)
  case atStart => exact ⟨rfl, rfl, Below.refl _ _⟩
  case round =>
    obtain ⟨rfl, rfl, hw⟩ := hrel
    go_wp2
    go_returns
    exact ⟨rfl, hw⟩
set_option maxHeartbeats 1000000 in
theorem heldIntS_nil (z : Int) (w : World) :
    Calls Try.prog 68 #[.slice none 0 0, .int .i64 z] w fun e w' => e = .returned (.int .i64 z) ∧ Below w.heap.size w w' := by
  go_enter Try.func68, Try.ntmps68
  go_wp2_with fail
  go_loopw [1, 5] (fun kk i wr => kk = .int .i64 z ∧ i = .int .i64 0 ∧ Below w.heap.size w wr) (fun _ _ _ => 0)
  case atStart => exact ⟨rfl, rfl, Below.refl _ _⟩
  case round =>
    obtain ⟨rfl, rfl, hw⟩ := hrel
    go_wp2
    go_returns
    exact ⟨rfl, hw⟩

/-- A marked slice, nil or not. -/
def MkInts (w : World) (v : Value) (N k : Nat) : Prop := (v = .slice none 0 0 ∧ N = 0) ∨ ∃ g cap, v = .slice (some ⟨g, 0, none⟩) N cap ∧ Mk w g 0 (N) (mkInt k)
theorem MkInts.below {w w' : World} {v : Value} {N k : Nat} (h : MkInts w v N k) (hb : Below w.heap.size w w') : MkInts w' v N k := by
  rcases h with h | ⟨g, cap, hv, hM⟩
  · exact .inl h
  · exact .inr ⟨g, cap, hv, hM.below hb⟩
theorem MkInts.kept {S : Nat → Prop} {w w' : World} {v : Value} {N k : Nat} (h : MkInts w v N k) (hk : Kept S w w') (hv : ∀ g, v.ownBlock = some g → ¬ S g) : MkInts w' v N k := by
  rcases h with h | ⟨g, cap, rfl, hM⟩
  · exact .inl h
  · exact .inr ⟨g, cap, rfl, hM.kept hk (hv g rfl)⟩
theorem MkInts.form {w : World} {v : Value} {N k : Nat} (h : MkInts w v N k) : ∃ a c, v = .slice a N c := by
  rcases h with ⟨rfl, rfl⟩ | ⟨g, cap, rfl, hM⟩ <;> exact ⟨_, _, rfl⟩
theorem markInts_c (v : Value) (N k lo : Nat) (z r : Int) (hz : z = k) (hr : r = z + (N : Int)) (hk : k + N ≤ 4611686018427387904) (xs : List Value) (w : World) (O : w.ownsRow lo 3 1 v N xs) (hlo : lo ≤ w.heap.size) :
    Calls Try.prog 67 #[v, .int .i64 z] w fun e w' => e = .returned (.int .i64 r) ∧ MkInts w' v N k ∧ Below lo w w' ∧ Kept (fun q => v.ownBlock = some q) w w' := by
  subst hr
  subst hz
  have hb := own_base O
  rcases O.2 with ⟨rfl, h0⟩ | ⟨g, cap, cur, rfl, h1, h2, h3, h4, h5, h6⟩
  · have hN := O.1
    obtain rfl : N = 0 := by subst h0; simp at hN; omega
    exact (markIntS_nil k w).mono fun e w' ⟨he, hb⟩ => ⟨by rw [he]; simp, .inl ⟨rfl, rfl⟩, hb.mono hlo, Kept.below hb⟩
  · have hW : Wr w g 0 (N) := fun j hj => by
      have hjc : j < cur.size := by rw [h5]; exact Nat.lt_of_lt_of_le hj (by omega)
      refine ⟨cur[j], ?_, ?_⟩
      · rw [cell_of_row w g _ cur 3 (0, 0) h2, Nat.zero_add, Array.getElem?_eq_getElem hjc]
      · simp [World.frozen?, h2]
    refine (markIntS_c g 0 N cap k lo h1 hk w (hb g rfl).2 hW).mono fun e w' ⟨he, hM, hB, hK⟩ => ⟨by rw [he]; congr 2 <;> omega, .inr ⟨g, cap, rfl, hM⟩, hB, fun q h1 h2 => hK q h1 (fun e => h2 (by rw [e]; rfl))⟩
theorem heldInts_c (v : Value) (N k : Nat) (z r : Int) (hz : z = k) (hr : r = z + (N : Int)) (hk : k + N ≤ 4611686018427387904) (w : World) (h : MkInts w v N k) :
    Calls Try.prog 68 #[v, .int .i64 z] w fun e w' => e = .returned (.int .i64 r) ∧ Below w.heap.size w w' := by
  subst hr
  subst hz
  rcases h with ⟨rfl, rfl⟩ | ⟨g, cap, rfl, hM⟩
  · exact (heldIntS_nil k w).mono fun e w' ⟨he, hb⟩ => ⟨by rw [he]; simp, hb⟩
  · exact (heldIntS_c g 0 N cap k hk w hM).mono fun e w' ⟨he, hb⟩ => ⟨by rw [he]; congr 2 <;> omega, hb⟩

end Go.Proofs.Ytpblhonnknmjjaa

/- Marks of a list of nodes that the call owns: markDNodeS. -/
namespace Go.Proofs.Ytpblhonnknmjjaa
open Go.RowKit
set_option linter.unusedVariables false
set_option linter.unusedSimpArgs false
attribute [local go_sem] Ext.cell

theorem Kept.imp {S S' : Nat → Prop} {w w' : World} (h : Kept S w w') (hi : ∀ q, S q → S' q) : Kept S' w w' := fun k h1 h2 => h k h1 fun hs => h2 (hi k hs)
/-- The mark behind the nodes ps, the first mark k. -/
def kS (k : Nat) (ps : List DRow) : Nat := k + (ps.map fun p => 3 + p.1.kids.length).sum
theorem kS_snoc (k : Nat) (ps : List DRow) (p : DRow) : kS k (ps ++ [p]) = kS k ps + 3 + p.1.kids.length := by
  unfold kS; simp; omega
theorem kS_take {ps : List DRow} {j : Nat} {p : DRow} (k : Nat) (h : ps[j]? = some p) : kS k (ps.take (j + 1)) = kS k (ps.take j) + 3 + p.1.kids.length := by
  rw [← kS_snoc, List.take_add_one, h]; rfl
theorem kS_le (k : Nat) (ps : List DRow) (j : Nat) : kS k (ps.take j) ≤ kS k ps := by
  unfold kS
  have h := sum_take_nat (fun p : DRow => 3 + p.1.kids.length) ps j
  omega
theorem kS_len (k : Nat) (ps : List DRow) : ps.length ≤ kS k ps := by
  induction ps with
  | nil => simp
  | cons p ps ih => simp only [kS, List.map_cons, List.sum_cons, List.length_cons] at *; omega
/-- The mark of cell t (0, 1, 2) of a node whose first mark is a. -/
def mkD (a : Nat) : Nat → Value
  | 0 => .int .i64 (a : Int)
  | 1 => .int .i64 ((a + 1 : Nat) : Int)
  | _ => .string (markT (a + 2))
/-- Node i is marked from a on. -/
def NodeM (w : World) (b off i a : Nat) (p : DRow) : Prop := (∀ t, t < 3 → w.cell? ⟨b, off + (i * 4 + t), none⟩ = some (mkD a t)) ∧ MkInts w (kidsV p) p.1.kids.length (a + 3)
/-- The first j nodes are marked, the others not yet. -/
structure MSt (lo : Nat) (w : World) (b off k : Nat) (ps : List DRow) (j : Nat) : Prop where
  wr : Wr w b off (ps.length * 4)
  kid : ∀ i p, ps[i]? = some p → w.cell? ⟨b, off + (i * 4 + 3), none⟩ = some (kidsV p)
  don : ∀ i p, i < j → ps[i]? = some p → NodeM w b off i (kS k (ps.take i)) p
  rest : ∀ i p, j ≤ i → ps[i]? = some p → OwnF 3 1 intRow I64 lo w (kidsV p) p.1.kids
/-- Within the round of node j: t of its cells are marked. -/
structure Mid (w0 w : World) (b off n j a t : Nat) : Prop where
  wr : Wr w b off (n * 4)
  oth : ∀ i, i < n * 4 → (i < j * 4 ∨ j * 4 + 3 ≤ i) → w.cell? ⟨b, off + i, none⟩ = w0.cell? ⟨b, off + i, none⟩
  don : ∀ i, i < t → w.cell? ⟨b, off + (j * 4 + i), none⟩ = some (mkD a i)
  kept : Kept (· = b) w0 w
  size : w0.heap.size ≤ w.heap.size
theorem Mid.start {w : World} {b off n j a : Nat} (h : Wr w b off (n * 4)) : Mid w w b off n j a 0 := ⟨h, fun _ _ _ => rfl, fun i h => absurd h (by omega), Kept.refl _ _, Nat.le_refl _⟩
theorem Mid.below {w0 w w' : World} {b off n j a t : Nat} (h : Mid w0 w b off n j a t) (hj : j < n) (ht : t ≤ 3) (hb : Below w.heap.size w w') : Mid w0 w' b off n j a t :=
  ⟨h.wr.below hb, fun i h1 h2 => by
    obtain ⟨c, h3, _⟩ := h.wr i h1
    rw [← h.oth i h1 h2, h3]
    exact cell_below hb h3, fun i hi => cell_below hb (h.don i hi), h.kept.trans h.size (Kept.below hb), Nat.le_trans h.size hb.size⟩
theorem Mid.set {w0 w : World} {b off n j a t : Nat} (h : Mid w0 w b off n j a t) (hj : j < n) (ht : t < 3) {u : Value} (hu : u = mkD a t) : Mid w0 (w.setCell ⟨b, off + (j * 4 + t), none⟩ u) b off n j a (t + 1) :=
  ⟨h.wr.set _ _, fun i h1 h2 => by rw [cell_setCell_ne _ _ _ _ _ (by omega)]; exact h.oth i h1 h2, fun i hi => by
    by_cases e : i = t
    · subst e
      obtain ⟨c, h3, _⟩ := h.wr (j * 4 + i) (by omega)
      rw [cell_setCell_eq _ _ _ _ h3, hu]
    · rw [cell_setCell_ne _ _ _ _ _ (by omega)]
      exact h.don i (by omega), h.kept.set rfl u, by simpa [World.setCell] using h.size⟩
/-- The round's end. -/
theorem MSt.step {lo : Nat} {w0 w w' : World} {b off k : Nat} {ps : List DRow} {j : Nat} {p : DRow} (h : MSt lo w0 b off k ps j) (hp : ps[j]? = some p) (hne : ∀ q ∈ ps, (kidsV q).ownBlock ≠ some b) (hD : DisjK ps)
    (hM : Mid w0 w b off ps.length j (kS k (ps.take j)) 3) (hI : MkInts w' (kidsV p) p.1.kids.length (kS k (ps.take j) + 3)) (hK : Kept (fun q => (kidsV p).ownBlock = some q) w w') : MSt lo w' b off k ps (j + 1) := by
  have hj : j < ps.length := (List.getElem?_eq_some_iff.1 hp).1
  have hnb : ¬ (kidsV p).ownBlock = some b := hne p (List.mem_of_getElem? hp)
  have K0 : Kept (fun q => q = b ∨ (kidsV p).ownBlock = some q) w0 w' := fun q h1 h2 => (hK q (Nat.lt_of_lt_of_le h1 hM.size) fun e => h2 (.inr e)).trans (hM.kept q h1 fun e => h2 (.inl e))
  have hc : ∀ {i : Nat} {c : Value}, w.cell? ⟨b, off + i, none⟩ = some c → w'.cell? ⟨b, off + i, none⟩ = some c := fun {i c} h1 => by
    rw [World.cell?_of_block (w := w) (a := ⟨b, off + i, none⟩) (hK b (World.block_lt_of_cell? w _ h1) hnb)]; exact h1
  have hdis : ∀ i q, i ≠ j → ps[i]? = some q → ∀ x, (kidsV q).ownBlock = some x → ¬ (x = b ∨ (kidsV p).ownBlock = some x) := fun i q hij hq x hx h1 => by
    rcases h1 with rfl | h1
    · exact hne q (List.mem_of_getElem? hq) hx
    · have hpw := List.pairwise_iff_getElem.1 hD
      obtain ⟨hi, rfl⟩ := List.getElem?_eq_some_iff.1 hq
      obtain ⟨hj', rfl⟩ := List.getElem?_eq_some_iff.1 hp
      rcases Nat.lt_or_gt_of_ne hij with h | h
      · exact hpw i j hi hj' h x hx h1
      · exact hpw j i hj' hi h x h1 hx
  refine ⟨hM.wr.kept hK hnb, fun i q hq => ?_, fun i q hi hq => ?_, fun i q hi hq => ?_⟩
  · refine hc ?_
    have hi : i < ps.length := (List.getElem?_eq_some_iff.1 hq).1
    rw [hM.oth (i * 4 + 3) (by omega) (by omega)]
    exact h.kid i q hq
  · by_cases e : i = j
    · subst e
      obtain rfl : p = q := by rw [hp] at hq; exact Option.some.inj hq
      exact ⟨fun t ht => hc (hM.don t ht), hI⟩
    · have hil : i < ps.length := (List.getElem?_eq_some_iff.1 hq).1
      obtain ⟨h1, h2⟩ := h.don i q (by omega) hq
      refine ⟨fun t ht => hc ?_, h2.kept K0 (hdis i q e hq)⟩
      rw [hM.oth (i * 4 + t) (by omega) (by omega)]
      exact h1 t ht
  · exact (h.rest i q (by omega) hq).kept K0 (hdis i q (by omega) hq)

set_option maxRecDepth 100000 in
set_option maxHeartbeats 4000000 in
theorem markDNodeS_c (b off n cap k lo : Nat) (ps : List DRow) (hn : n = ps.length) (hlo : lo ≤ b) (hkn : kS k ps ≤ 4611686018427387904) (hln : n ≤ 4611686018427387904) (w : World) (hb0 : b < w.heap.size) (S : MSt lo w b off k ps 0) (hne : ∀ q ∈ ps, (kidsV q).ownBlock ≠ some b) (hD : DisjK ps) (Q : Nat → Prop) (hQ1 : Q b) (hQ2 : ∀ p ∈ ps, ∀ g, (kidsV p).ownBlock = some g → Q g) :
    Calls Try.prog 35 #[.slice (some ⟨b, off, none⟩) n cap, .int .i64 k] w fun e w' => e = .returned (.int .i64 (kS k ps : Nat)) ∧ MSt lo w' b off k ps n ∧ Below lo w w' ∧ Kept Q w w' := by
  replace hQ2 := Lib.hid hQ2; replace hQ1 := Lib.hid hQ1; replace hne := Lib.hid hne; replace hD := Lib.hid hD; replace S := Lib.hid S; replace hn := Lib.hid hn; replace hkn := Lib.hid hkn
  go_enter Try.func35, Try.ntmps35
  go_wp2_with fail
  go_loopw [1, 5] (fun kk i wr => ∃ m j : Nat, j ≤ n ∧ Hid (m = kS k (ps.take j)) ∧ kk = .int .i64 m ∧ i = .int .i64 j ∧ Hid (MSt lo wr b off k ps j) ∧ Below lo w wr ∧ Hid (Kept Q w wr)) (fun _ i _ => n - (intOf i).toNat)
  case atStart => exact ⟨k, 0, by omega, by show _ = _; simp [kS], rfl, rfl, S, Below.refl _ _, Kept.refl _ _⟩
  case round =>
    clear S
    obtain ⟨m, j, hj, hm, rfl, rfl, S, hw0, hK0⟩ := hrel
    have hz0 := hw0.size
    by_cases hlt : j < n
    · obtain ⟨p, hp⟩ : ∃ p, ps[j]? = some p := ⟨_, List.getElem?_eq_getElem (by have := hn.out; omega)⟩
      have hks := kS_take k hp
      have hle := kS_le k ps (j + 1)
      have hm3 : m + 3 + p.1.kids.length ≤ 4611686018427387904 := by have := hkn.out; have := hm.out; omega
      have hM := Mid.start (j := j) (a := m) S.out.wr
      have hO := S.out.rest j p (Nat.le_refl _) hp
      have hkid := S.out.kid j p hp
      have hnb : (kidsV p).ownBlock ≠ some b := hne.out p (List.mem_of_getElem? hp)
      rw [← hn.out] at hM
      obtain ⟨kv, hkv⟩ : ∃ x, x = kidsV p := ⟨_, rfl⟩
      obtain ⟨nk, hnk⟩ : ∃ x, x = p.1.kids.length := ⟨_, rfl⟩
      rw [← hkv] at hO hkid hnb
      rw [← hnk] at hm3 hks
      obtain ⟨⟨c0, e0, f0⟩, ⟨c1, e1, f1⟩⟩ : (∃ c, wr.cell? ⟨b, off + j * 4, none⟩ = some c ∧ wr.frozen? ⟨b, off + j * 4, none⟩ = false) ∧ (∃ c, wr.cell? ⟨b, off + j * 4 + 1, none⟩ = some c ∧ wr.frozen? ⟨b, off + j * 4 + 1, none⟩ = false) :=
        ⟨hM.wr (j * 4 + 0) (by omega), hM.wr (j * 4 + 1) (by omega)⟩
      replace hM := Lib.hid hM; replace hO := Lib.hid hO; replace hkid := Lib.hid hkid; replace hnb := Lib.hid hnb; replace hkv := Lib.hid hkv; replace hnk := Lib.hid hnk; replace hks := Lib.hid hks; replace hp := Lib.hid hp; replace hle := Lib.hid hle
      go_wp2_with fail
      refine (markText_z (m + 2) _ (by omega) (by omega) _).mono ?_
      rintro e w2 ⟨rfl, hb2⟩
      have hM1 := ((hM.out.set hlt (by omega) (u := .int .i64 (m : Int)) rfl).set hlt (by omega) (u := .int .i64 ((m : Int) + 1)) (by show Value.int .i64 _ = Value.int .i64 _; congr 1)).below hlt (by omega) hb2
      have hB2 : Below lo w w2 := ((hw0.setCell (p := ⟨b, off + (j * 4 + 0), none⟩) (by dsimp only; omega) (.int .i64 (m : Int))).setCell (p := ⟨b, off + (j * 4 + 1), none⟩) (by dsimp only; omega) (.int .i64 ((m : Int) + 1))).trans (hb2.mono (by simp [World.setCell]; omega))
      clear hb2 e0 f0 e1 f1
      obtain ⟨c2, e2, f2⟩ : (∃ c, w2.cell? ⟨b, off + j * 4 + 2, none⟩ = some c ∧ w2.frozen? ⟨b, off + j * 4 + 2, none⟩ = false) := hM1.wr (j * 4 + 2) (by omega)
      have e3 : w2.cell? ⟨b, off + j * 4 + 3, none⟩ = some kv := (hM1.oth (j * 4 + 3) (by omega) (by omega)).trans hkid.out
      have hM2 := hM1.set hlt (by omega) (u := .string (markT (m + 2))) rfl
      have hO2 := hO.out.kept hM2.kept (fun x hx e => hnb.out (by rw [hx, e]))
      have hz2 := hB2.size
      replace hM1 := Lib.hid hM1; replace hM2 := Lib.hid hM2; replace hO2 := Lib.hid hO2
      generalize markT (m + 2) = st at *
      go_wp2_with fail
      refine (markInts_c kv nk (m + 3) lo _ _ (by omega) rfl (by omega) _ _ (by rw [hnk.out]; exact hO2.out.1) (by simp [World.setCell]; omega)).mono ?_
      rintro e w3 ⟨rfl, hI, hB, hK⟩
      have hz3 := hB.size
      have S3 : Hid (MSt lo w3 b off k ps (j + 1)) := by
        have hM3 := hM2.out
        have hI3 := hI
        have hK3 := hK
        rw [hn.out, hm.out] at hM3
        rw [hkv.out, hnk.out, hm.out] at hI3
        rw [hkv.out] at hK3
        exact S.out.step hp.out hne.out hD.out hM3 hI3 hK3
      have hB3 : Below lo w w3 := (hB2.setCell (p := ⟨b, off + (j * 4 + 2), none⟩) (by dsimp only; omega) (.string st)).trans hB
      have hK3 : Hid (Kept Q w w3) := hK0.out.trans hz0 ((hM2.out.kept.imp fun q e => by rw [e]; exact hQ1.out).trans hM2.out.size (hK.imp fun q e => hQ2.out p (List.mem_of_getElem? hp.out) q (by rw [← hkv.out]; exact e)))
      clear hI hB hK hK0
      go_wp2_with fail
      go_roundw
      case rel => exact ⟨m + 3 + nk, j + 1, by omega, by show _ = _; rw [hks.out, ← hm.out], by go_num, by go_num, S3, hB3, hK3⟩
      case measure => simp [intOf]; omega
    · obtain rfl : j = n := by omega
      go_wp2
      go_returns
      refine ⟨?_, S.out, hw0, hK0.out⟩
      have := hm.out
      rw [List.take_of_length_le (by have := hn.out; omega)] at this
      rw [this]
      rfl

end Go.Proofs.Ytpblhonnknmjjaa

/- Marks of a list of nodes that the call owns, read again: heldDNodeS; markData, heldData. -/
namespace Go.Proofs.Ytpblhonnknmjjaa
open Go.RowKit
set_option linter.unusedVariables false
set_option linter.unusedSimpArgs false
attribute [local go_sem] Ext.cell

/-- All nodes are marked. -/
structure NodesM (w : World) (b off k : Nat) (ps : List DRow) : Prop where
  kid : ∀ i p, ps[i]? = some p → w.cell? ⟨b, off + (i * 4 + 3), none⟩ = some (kidsV p)
  don : ∀ i p, ps[i]? = some p → NodeM w b off i (kS k (ps.take i)) p
theorem MSt.nodes {lo : Nat} {w : World} {b off k : Nat} {ps : List DRow} (h : MSt lo w b off k ps ps.length) : NodesM w b off k ps := ⟨h.kid, fun i p hp => h.don i p (List.getElem?_eq_some_iff.1 hp).1 hp⟩
theorem NodesM.below {w w' : World} {b off k : Nat} {ps : List DRow} (h : NodesM w b off k ps) (hb : Below w.heap.size w w') : NodesM w' b off k ps :=
  ⟨fun i p hp => cell_below hb (h.kid i p hp), fun i p hp => ⟨fun t ht => cell_below hb ((h.don i p hp).1 t ht), (h.don i p hp).2.below hb⟩⟩

set_option maxRecDepth 100000 in
set_option maxHeartbeats 8000000 in
theorem heldDNodeS_c (b off n cap k : Nat) (ps : List DRow) (hn : n = ps.length) (hkn : kS k ps ≤ 4611686018427387904) (hln : n ≤ 4611686018427387904) (w : World) (S : NodesM w b off k ps) :
    Calls Try.prog 36 #[.slice (some ⟨b, off, none⟩) n cap, .int .i64 k] w fun e w' => e = .returned (.int .i64 (kS k ps : Nat)) ∧ Below w.heap.size w w' := by
  replace S := Lib.hid S; replace hn := Lib.hid hn; replace hkn := Lib.hid hkn
  go_enter Try.func36, Try.ntmps36
  go_wp2_with fail
  go_loopw [1, 5] (fun kk i wr => ∃ m j : Nat, j ≤ n ∧ Hid (m = kS k (ps.take j)) ∧ kk = .int .i64 m ∧ i = .int .i64 j ∧ Below w.heap.size w wr) (fun _ i _ => n - (intOf i).toNat)
  case atStart => exact ⟨k, 0, by omega, by show _ = _; simp [kS], rfl, rfl, Below.refl _ _⟩
  case round =>
    obtain ⟨m, j, hj, hm, rfl, rfl, hw0⟩ := hrel
    have hz0 := hw0.size
    by_cases hlt : j < n
    · obtain ⟨p, hp⟩ : ∃ p, ps[j]? = some p := ⟨_, List.getElem?_eq_getElem (by have := hn.out; omega)⟩
      have hks := kS_take k hp
      have hle := kS_le k ps (j + 1)
      have hm3 : m + 3 + p.1.kids.length ≤ 4611686018427387904 := by have := hkn.out; have := hm.out; omega
      have S0 := S.out.below hw0
      obtain ⟨hD, hI⟩ := S0.don j p hp
      rw [← hm.out] at hD hI
      have e0 : wr.cell? ⟨b, off + j * 4, none⟩ = some (.int .i64 (m : Int)) := hD 0 (by omega)
      have e1 : wr.cell? ⟨b, off + j * 4 + 1, none⟩ = some (.int .i64 ((m : Int) + 1)) := (hD 1 (by omega)).trans (by show some (Value.int .i64 _) = some (Value.int .i64 _); congr 2)
      have e2 : ∀ z : Ext wr, z.val.cell? ⟨b, off + j * 4 + 2, none⟩ = some (.string (markT (m + 2))) := fun z => cell_below z.property (hD 2 (by omega))
      have e3 := S0.kid j p hp
      obtain ⟨kv, hkv⟩ : ∃ x, x = kidsV p := ⟨_, rfl⟩
      obtain ⟨nk, hnk⟩ : ∃ x, x = p.1.kids.length := ⟨_, rfl⟩
      rw [← hkv] at hI e3
      rw [← hnk] at hm3 hks hI
      replace hI := Lib.hid hI; replace hks := Lib.hid hks; replace hp := Lib.hid hp; replace hle := Lib.hid hle; replace e3 := Lib.hid e3; replace hkv := Lib.hid hkv; replace hnk := Lib.hid hnk
      clear hD S0
      have ct := fun W => markText_z (m + 2) ((m : Int) + 1 + 1) (by omega) (by omega) W
      generalize markT (m + 2) = st at *
      go_wp2_with fail
      refine wp_region_ext_lit (by kernel_rfl) (by kernel_rfl) ?_
      repeat (go_big_quiet_step ((go_at_call 66; exact Calls.ext (ct _))))
      refine wpQuiet_nil ?_
      rintro w1 ⟨⟨_, hb⟩, rfl⟩
      have hw1 := hw0.trans (hb.mono hz0)
      have hI1 := hI.out.below hb
      have e4 : w1.cell? ⟨b, off + j * 4 + 3, none⟩ = some kv := cell_below hb e3.out
      clear e0 e1 e2 ct hb hw0
      have hz1 := hw1.size
      go_wp2_with fail
      refine (heldInts_c kv nk (m + 3) _ _ (by omega) rfl (by omega) _ hI1).mono ?_
      rintro e w2 ⟨rfl, hb2⟩
      go_wp2_with fail
      go_roundw
      case rel => exact ⟨m + 3 + nk, j + 1, by omega, by show _ = _; rw [hks.out, ← hm.out], by go_num, by go_num, hw1.trans (hb2.mono hz1)⟩
      case measure => simp [intOf]; omega
    · obtain rfl : j = n := by omega
      go_wp2
      go_returns
      refine ⟨?_, hw0⟩
      have := hm.out
      rw [List.take_of_length_le (by have := hn.out; omega)] at this
      rw [this]
      rfl

/-- The whole value, nil or not. -/
def MkD (w : World) (v : Value) (k : Nat) (ps : List DRow) : Prop := (v = .slice none 0 0 ∧ ps = []) ∨ ∃ g cap, v = .slice (some ⟨g, 0, none⟩) ps.length cap ∧ NodesM w g 0 k ps
theorem MkD.below {w w' : World} {v : Value} {k : Nat} {ps : List DRow} (h : MkD w v k ps) (hb : Below w.heap.size w w') : MkD w' v k ps := by
  rcases h with h | ⟨g, cap, hv, hM⟩
  · exact .inl h
  · exact .inr ⟨g, cap, hv, hM.below hb⟩
set_option maxHeartbeats 1000000 in
theorem markDNodeS_nil (z : Int) (w : World) :
    Calls Try.prog 35 #[.slice none 0 0, .int .i64 z] w fun e w' => e = .returned (.int .i64 z) ∧ Below w.heap.size w w' := by
  go_enter Try.func35, Try.ntmps35
  go_wp2_with fail
  go_loopw [1, 5] (fun kk i wr => kk = .int .i64 z ∧ i = .int .i64 0 ∧ Below w.heap.size w wr) (fun _ _ _ => 0)
  case atStart => exact ⟨rfl, rfl, Below.refl _ _⟩
  case round =>
    obtain ⟨rfl, rfl, hw⟩ := hrel
    go_wp2
    go_returns
    exact ⟨rfl, hw⟩
set_option maxHeartbeats 1000000 in
theorem heldDNodeS_nil (z : Int) (w : World) :
    Calls Try.prog 36 #[.slice none 0 0, .int .i64 z] w fun e w' => e = .returned (.int .i64 z) ∧ Below w.heap.size w w' := by
  go_enter Try.func36, Try.ntmps36
  go_wp2_with fail
  go_loopw [1, 5] (fun kk i wr => kk = .int .i64 z ∧ i = .int .i64 0 ∧ Below w.heap.size w wr) (fun _ _ _ => 0)
  case atStart => exact ⟨rfl, rfl, Below.refl _ _⟩
  case round =>
    obtain ⟨rfl, rfl, hw⟩ := hrel
    go_wp2
    go_returns
    exact ⟨rfl, hw⟩
/-- The blocks that the nodes take. -/
def InD (v : Value) (ps : List DRow) (q : Nat) : Prop := v.ownBlock = some q ∨ ∃ p ∈ ps, (kidsV p).ownBlock = some q
theorem markD_c (A : Nat → Prop) (v : Value) (ps : List DRow) (k lo : Nat) (w : World) (O : OwnD A 44 lo w v ps) (D : DisjK ps) (K : KO lo w ps) (hlo : lo ≤ w.heap.size) (hkn : kS k ps ≤ 4611686018427387904) :
    Calls Try.prog 35 #[v, .int .i64 k] w fun e w' => e = .returned (.int .i64 (kS k ps : Nat)) ∧ MkD w' v k ps ∧ Below lo w w' ∧ Kept (InD v ps) w w' := by
  by_cases h0 : 0 < ps.length
  · obtain ⟨g, cap, rfl, h1, h2, h3, h4, h5, h6⟩ := own_cells O.own.1 h0
    refine (markDNodeS_c g 0 ps.length cap k lo ps rfl h1 hkn (Nat.le_trans (kS_len k ps) hkn) w h2 ⟨h6, fun i p hp => ?_, fun i p hi => absurd hi (by omega), fun i p _ hp => K p (List.mem_of_getElem? hp)⟩ (fun q hq e => ((O.kids q hq).2 g e).1.1 rfl) D _ (.inl rfl) (fun p hp g hg => .inr ⟨p, hp, hg⟩)).mono fun e w' ⟨he, hS, hB, hK⟩ => ⟨he, .inr ⟨g, cap, rfl, hS.nodes⟩, hB, hK⟩
    exact h5 (i * 4 + 3) _ (flatD.get hp rfl)
  · obtain rfl : ps = [] := List.length_eq_zero_iff.1 (by omega)
    rcases O.own.1.2 with ⟨rfl, _⟩ | ⟨g, cap, cur, rfl, h1, h2, h3⟩
    · exact (markDNodeS_nil k w).mono fun e w' ⟨he, hb⟩ => ⟨he, .inl ⟨rfl, rfl⟩, hb.mono hlo, Kept.below hb⟩
    · have hlt : g < w.heap.size := by
        rcases Nat.lt_or_ge g w.heap.size with hlt | hge
        · exact hlt
        · rw [Array.getElem?_eq_none hge] at h2; cases h2
      refine (markDNodeS_c g 0 0 cap k lo [] rfl h1 hkn (by omega) w hlt ⟨fun j hj => absurd hj (by simp), fun i p hp => by simp at hp, fun i p hi => absurd hi (by omega), fun i p _ hp => by simp at hp⟩ (fun q hq => by simp at hq) D _ (.inl rfl) (fun p hp => by simp at hp)).mono fun e w' ⟨he, hS, hB, hK⟩ => ⟨he, .inr ⟨g, cap, rfl, hS.nodes⟩, hB, hK⟩
theorem heldD_c (v : Value) (ps : List DRow) (k : Nat) (w : World) (h : MkD w v k ps) (hkn : kS k ps ≤ 4611686018427387904) (hln : ps.length ≤ 4611686018427387904) :
    Calls Try.prog 36 #[v, .int .i64 k] w fun e w' => e = .returned (.int .i64 (kS k ps : Nat)) ∧ Below w.heap.size w w' := by
  rcases h with ⟨rfl, rfl⟩ | ⟨g, cap, rfl, hM⟩
  · exact heldDNodeS_nil k w
  · exact heldDNodeS_c g 0 ps.length cap k ps rfl hkn hln w hM

set_option maxHeartbeats 1000000 in
theorem markData_c (A : Nat → Prop) (v : Value) (ps : List DRow) (k lo : Nat) (w : World) (O : OwnD A 44 lo w v ps) (D : DisjK ps) (K : KO lo w ps) (hlo : lo ≤ w.heap.size) (hkn : kS k ps ≤ 4611686018427387904) :
    Calls Try.prog 17 #[.agg #[v], .int .i64 k] w fun e w' => e = .returned (.int .i64 (kS k ps : Nat)) ∧ MkD w' v k ps ∧ Below lo w w' ∧ Kept (InD v ps) w w' := by
  obtain ⟨a, c, rfl⟩ := O.form
  obtain ⟨n, hn⟩ : ∃ n, n = ps.length := ⟨_, rfl⟩
  rw [← hn] at O ⊢
  have hc := fun (W : World) (hb : Below w.heap.size w W) => markD_c A _ ps k lo W (O.below hb) D (K.below hb) (Nat.le_trans hlo hb.size) hkn
  generalize hks : kS k ps = z at *
  clear O K D
  replace hn := Lib.hid hn; replace hks := Lib.hid hks; replace hc := Lib.hid hc
  go_enter Try.func17, Try.ntmps17
  go_wp2_with (go_at_call 35; refine (hc.out _ (by go_grown)).mono ?_; rintro e w2 ⟨rfl, hM, hb2, hK2⟩)
  go_returns
  exact ⟨rfl, hM, Below.trans (Below.mono (show Below w.heap.size w _ by go_grown) hlo) hb2, (Kept.below (show Below w.heap.size w _ by go_grown)).trans (by simp) hK2⟩
set_option maxHeartbeats 1000000 in
theorem heldData_c (v : Value) (ps : List DRow) (k : Nat) (w : World) (h : MkD w v k ps) (hv : ∃ a n c, v = .slice a n c) (hkn : kS k ps ≤ 4611686018427387904) (hln : ps.length ≤ 4611686018427387904) :
    Calls Try.prog 18 #[.agg #[v], .int .i64 k] w fun e w' => e = .returned (.int .i64 (kS k ps : Nat)) ∧ Below w.heap.size w w' := by
  obtain ⟨a, n, c, rfl⟩ := hv
  have hc := fun (W : World) (hb : Below w.heap.size w W) => heldD_c _ ps k W (h.below hb) hkn hln
  generalize hks : kS k ps = z at *
  clear h
  replace hks := Lib.hid hks; replace hc := Lib.hid hc
  go_enter Try.func18, Try.ntmps18
  go_wp2_with (go_at_call 36; refine (hc.out _ (by go_grown)).mono ?_; rintro e w2 ⟨rfl, hb2⟩)
  go_returns
  exact ⟨rfl, Below.trans (show Below w.heap.size w _ by go_grown) (hb2.mono (by simp))⟩
theorem MkD.form {w : World} {v : Value} {k : Nat} {ps : List DRow} (h : MkD w v k ps) : ∃ a n c, v = .slice a n c := by
  rcases h with ⟨rfl, rfl⟩ | ⟨g, cap, rfl, hM⟩ <;> exact ⟨_, _, _, rfl⟩

end Go.Proofs.Ytpblhonnknmjjaa

/- The text of a number: digits, the reversal of bytes, NumText of both. -/
namespace Go.Proofs.Ytpblhonnknmjjaa
open Go.RowKit
set_option linter.unusedVariables false
set_option linter.unusedSimpArgs false
attribute [local go_sem] Ext.cell

def bval (b : UInt8) : Value := .int .u8 b.toNat
/-- Block g begins with these bytes, which may be written. -/
def BytesAt (w : World) (g n : Nat) (f : Nat → UInt8) : Prop := ∀ j, j < n → w.cell? ⟨g, j, none⟩ = some (.int .u8 (f j).toNat) ∧ w.frozen? ⟨g, j, none⟩ = false
theorem BytesAt.set {w : World} {g n : Nat} {f : Nat → UInt8} (h : BytesAt w g n f) {o : Nat} (ho : o < n) (b : UInt8) : BytesAt (w.setCell ⟨g, o, none⟩ (.int .u8 b.toNat)) g n (fun j => if j = o then b else f j) := fun j hj => by
  refine ⟨?_, by rw [frozen_setCell]; exact (h j hj).2⟩
  dsimp only
  by_cases e : j = o
  · subst e
    rw [if_pos rfl]
    exact cell_setCell_eq _ _ _ _ (h j hj).1
  · rw [if_neg e, cell_setCell_ne _ _ _ _ _ (by omega)]
    exact (h j hj).1
theorem BytesAt.congr {w : World} {g n : Nat} {f f' : Nat → UInt8} (h : BytesAt w g n f) (e : ∀ j, j < n → f j = f' j) : BytesAt w g n f' := fun j hj => by rw [← e j hj]; exact h j hj
theorem BytesAt.drew {w : World} {g n : Nat} {f : Nat → UInt8} (h : BytesAt w g n f) : BytesAt w.drew g n f := fun j hj => h j hj

/-- Where a byte comes from when i pairs are exchanged. -/
def src (n i p : Nat) : Nat := if p < i ∨ n ≤ p + i then n - 1 - p else p

theorem src_step (f : Nat → UInt8) {n i j p : Nat} (hj : (n : Int) - 1 - i = j) (hij : i < j) (hp : p < n) :
    (if p = j then f (src n i i) else if p = i then f (src n i j) else f (src n i p)) = f (src n (i + 1) p) := by
  have h1 : src n i i = i := by unfold src; rw [if_neg (by omega)]
  have h2 : src n i j = j := by unfold src; rw [if_neg (by omega)]
  rw [h1, h2]
  by_cases e1 : p = j
  · rw [if_pos e1]; congr 1; unfold src; rw [if_pos (by omega)]; omega
  · rw [if_neg e1]
    by_cases e2 : p = i
    · rw [if_pos e2]; congr 1; unfold src; rw [if_pos (by omega)]; omega
    · rw [if_neg e2]; congr 1; unfold src
      by_cases e3 : p < i ∨ n ≤ p + i
      · rw [if_pos e3, if_pos (by omega)]
      · rw [if_neg e3, if_neg (by omega)]
theorem src_step' (f : Nat → UInt8) {n i j p : Nat} (hj : (n : Int) - 1 - i = j) (hij : i < j) (hp : p < n) :
    (if p = i then f (src n i j) else if p = j then f (src n i i) else f (src n i p)) = f (src n (i + 1) p) := by
  rw [← src_step f hj hij hp]
  by_cases e1 : p = j
  · rw [if_neg (by omega), if_pos e1, if_pos e1]
  · rw [if_neg e1, if_neg e1]

set_option maxRecDepth 100000 in
set_option maxHeartbeats 4000000 in
theorem reverseB_c (g n cap : Nat) (f : Nat → UInt8) (hn : n ≤ 1152921504606846976) (hc : n ≤ cap) (w : World) (h : BytesAt w g n f) :
    Calls Try.prog 88 #[.slice (some ⟨g, 0, none⟩) n cap] w fun e w' => e = .returned (.tuple #[]) ∧ BytesAt w' g n (fun j => f (n - 1 - j)) ∧ Below g w w' ∧ w.heap.size ≤ w'.heap.size := by
  replace h := Lib.hid h
  go_enter Try.func88, Try.ntmps88
  go_wp2_with fail
  go_loopw [2, 3] (fun a b wr => ∃ i : Nat, 2 * i ≤ n + 1 ∧ a = .int .i64 i ∧ b = .int .i64 ((n : Int) - 1 - i) ∧ Hid (BytesAt wr g n fun p => f (src n i p)) ∧ Below g w wr ∧ w.heap.size ≤ wr.heap.size) (fun a _ _ => n - (intOf a).toNat)
  case atStart => exact ⟨0, by omega, by simp, by simp, h.out.congr (fun j hj => by unfold src; rw [if_neg (by omega)]), Below.refl _ _, Nat.le_refl _⟩
  case round =>
    obtain ⟨i, hi, rfl, rfl, hB, hw, hs⟩ := hrel
    by_cases hlt : (i : Int) < (n : Int) - 1 - i
    · obtain ⟨j, hj⟩ : ∃ j : Nat, (n : Int) - 1 - i = j := ⟨n - 1 - i, by omega⟩
      rw [hj] at hlt
      have hjn : j < n := by omega
      have hin : i < n := by omega
      have hij : i < j := by omega
      obtain ⟨e1, e2⟩ := hB.out i hin
      obtain ⟨e3, e4⟩ := hB.out j hjn
      rw [hj]
      have hBi := (hB.out.set hin (f (src n i j))).set hjn (f (src n i i))
      have hBj := (hB.out.set hjn (f (src n i i))).set hin (f (src n i j))
      replace hBi := Lib.hid hBi; replace hBj := Lib.hid hBj
      replace hj := Lib.hid hj
      go_wp2_with fail
      go_region
      all_goals go_wp2_with fail
      all_goals
        go_roundw
        case rel =>
          have h := hj.out
          refine ⟨i + 1, by omega, by go_num, by congr 1; omega, ?_, by go_grown, by simpa using hs⟩
          first
            | exact hBi.out.drew.congr fun p hp => src_step f h hij hp
            | exact hBj.out.drew.congr fun p hp => src_step' f h hij hp
        case measure => simp [intOf]; omega
    · have hfin := hB.out.congr (f' := fun j => f (n - 1 - j)) fun p hp => by unfold src; congr 1; split <;> omega
      replace hfin := Lib.hid hfin
      go_wp2_with fail
      go_returns
      exact ⟨rfl, hfin.out, hw, hs⟩

end Go.Proofs.Ytpblhonnknmjjaa

/- The text of a number: the program's digits and NumText. -/
namespace Go.Proofs.Ytpblhonnknmjjaa
open Go.RowKit
set_option linter.unusedVariables false
set_option linter.unusedSimpArgs false
attribute [local go_sem] Ext.cell

/-- The digits from the last on. -/
def revd (n : Nat) : List UInt8 := if n < 10 then [dig n] else dig n :: revd (n / 10)
theorem revd_small {n : Nat} (h : n < 10) : revd n = [dig n] := by rw [revd, if_pos h]
theorem revd_step {n : Nat} (h : ¬ n < 10) : revd n = dig n :: revd (n / 10) := by conv => lhs; rw [revd, if_neg h]
theorem revd_len : ∀ (m n : Nat), n < 10 ^ (m + 1) → (revd n).length ≤ m + 1
  | 0, n, h => by rw [revd_small (by simpa using h)]; simp
  | m + 1, n, h => by
    by_cases h1 : n < 10
    · rw [revd_small h1]; simp
    · rw [revd_step h1]
      have := revd_len m (n / 10) (by rw [Nat.pow_succ] at h; omega)
      simp; omega
def numS (n : Nat) : ByteArray := ⟨(revd n).reverse.toArray⟩
theorem dig_toNat (n : Nat) : (dig n).toNat = 48 + n % 10 := by unfold dig; rw [UInt8.toNat_ofNat']; exact Nat.mod_eq_of_lt (by omega)
theorem info_u8 : (Try.prog.info? 5).map (fun i => (i.zero, i.size, i.bytes)) = some (some (.int .u8 0), 1, 1) := by kernel_rfl

/-- Digits laid and digits to come. -/
def DigSt (N k : Nat) (o : List UInt8) : Prop := (k = 0 ∧ o = revd N ∧ o ≠ []) ∨ ((0 < k ∨ o = []) ∧ o ++ revd k = revd N)
theorem DigSt.step {N k : Nat} {o : List UInt8} (h : DigSt N k o) (h0 : 0 < k ∨ o = []) : DigSt N (k / 10) (o ++ [dig k]) := by
  rcases h with ⟨h1, h2, h3⟩ | ⟨_, h2⟩
  · rcases h0 with h0 | h0
    · omega
    · exact absurd h0 h3
  · by_cases h1 : k < 10
    · rw [revd_small h1] at h2
      exact .inl ⟨by omega, h2, by simp⟩
    · rw [revd_step h1] at h2
      exact .inr ⟨.inl (by omega), by rw [List.append_assoc]; exact h2⟩
theorem DigSt.len {N k : Nat} {o : List UInt8} (h : DigSt N k o) : o.length ≤ (revd N).length := by
  rcases h with ⟨_, h2, _⟩ | ⟨_, h2⟩
  · rw [h2]; exact Nat.le_refl _
  · rw [← h2]; simp
theorem DigSt.done {N k : Nat} {o : List UInt8} (h : DigSt N k o) (h0 : k = 0) (h1 : o ≠ []) : o = revd N := by
  rcases h with ⟨_, h2, _⟩ | ⟨h2, _⟩
  · exact h2
  · rcases h2 with h2 | h2
    · omega
    · exact absurd h2 h1

theorem own_bytes {w : World} {base : Nat} {v : Value} {o : List UInt8} (h : w.ownsRow base 5 1 v o.length (o.map bval)) (h0 : 0 < o.length) :
    ∃ g cap, v = .slice (some ⟨g, 0, none⟩) o.length cap ∧ base ≤ g ∧ g < w.heap.size ∧ o.length ≤ cap ∧ cap ≤ 9223372036854775807 ∧ BytesAt w g o.length fun j => o.getD j 0 := by
  obtain ⟨g, cap, rfl, h1, h2, h3, h4, h5, h6⟩ := own_cells h h0
  refine ⟨g, cap, rfl, h1, h2, h3, h4, fun j hj => ?_⟩
  have e := h5 j (bval (o.getD j 0)) (by rw [List.getElem?_map, List.getElem?_eq_getElem hj]; simp [List.getD, List.getElem?_eq_getElem hj])
  obtain ⟨c, _, f⟩ := h6 j (by omega)
  exact ⟨by simpa [bval] using e, by simpa using f⟩

set_option maxRecDepth 100000 in
set_option maxHeartbeats 4000000 in
theorem digits_c (N : Nat) (hN : N ≤ 4611686018427387904) (w : World) :
    Calls Try.prog 73 #[.int .i64 N] w fun e w' => e = .returned (.string (numS N)) ∧ Below w.heap.size w w' := by
  have hlen : (revd N).length ≤ 19 := revd_len 18 N (by omega)
  obtain ⟨i0, hi0, hz0, hz1, hz2⟩ := info_parts info_u8
  have I := Lib.hid hi0; have I0 := Lib.hid hz0; have I1 := Lib.hid hz1; have I2 := Lib.hid hz2
  clear hi0 hz0 hz1 hz2
  go_enter Try.func73, Try.ntmps73
  go_wp2_with fail
  go_loopg [0, 3] (N + 1) (fun gg m v wr => ∃ (k : Nat) (o : List UInt8), k ≤ N ∧ m = .int .i64 k ∧ Hid (DigSt N k o) ∧ wr.ownsRow w.heap.size 5 1 v o.length (o.map bval) ∧ (∃ a c, v = .slice a o.length c) ∧ Below w.heap.size w wr ∧ k + (if o = [] then 1 else 0) ≤ gg)
  case atStart => exact ⟨N, [], Nat.le_refl _, rfl, .inr ⟨.inr rfl, by simp⟩, own_new w #[] 5 1 0 rfl (by unfold maxLen; omega) _ (Nat.le_refl _), ⟨_, _, rfl⟩, by go_grown, by simp⟩
  case round =>
    obtain ⟨k, o, hk, rfl, hD, O, ⟨a, c, rfl⟩, hw, hg⟩ := hrel
    have hz := hw.size
    have hol := hD.out.len
    by_cases h0 : 0 < k ∨ o = []
    · have hst := hD.out.step h0
      have h0' := h0
      have hb : bval (dig k) = .int .u8 (48 + (k : Int) % 10) := by unfold bval; rw [dig_toNat]; simp
      have hb2 : (o ++ [dig k]).map bval = o.map bval ++ [.int .u8 (48 + (k : Int) % 10)] := by rw [List.map_append]; simp [hb]
      have hg2 : ∀ x, k + (if o = [] then 1 else 0) ≤ x → k / 10 + (if o ++ [dig k] = [] then 1 else 0) < x := by
        intro x hg
        rw [if_neg (by simp)]
        by_cases hk0 : 0 < k
        · have : k / 10 < k := by omega
          omega
        · rw [if_pos (by rcases h0 with h | h; exact absurd h hk0; exact h)] at hg; omega
      replace hg2 := Lib.hid hg2; replace hb2 := Lib.hid hb2; replace hst := Lib.hid hst; replace O := Lib.hid O
      clear hb
      replace hg := Lib.hid hg
      clear h0
      by_cases hk0 : 0 < k
      · have hd : decide ((0 : Int) < (k : Int)) = true := decide_eq_true (by omega)
        go_wp2_with (at_builtin; refine wpList_append_lies _ rfl _ _ _ rfl w.heap.size 5 i0 _ 1 1 Try.underlying22 I.out I0.out I1.out I2.out rfl (by omega) (.slice a o.length c) o.length (o.map bval) rfl (own_below O.out (by go_grown)) ⟨wr.heap.size, 0, none⟩ 1 1 [.int .u8 (48 + (k : Int) % 10)] rfl rfl (World.news_of_block (cs := #[.int .u8 (48 + (k : Int) % 10)]) (t := 5) (fr := (0, 0)) (heap_alloc_new' _ _ _ (by simp))) (by intro u hu; simp at hu; subst hu; rfl) (by omega) (by unfold maxLen; omega) (by omega) (by simp; omega) _ rfl ?_; intro g cap w2 hown hgrow hat hlt2)
        have hw2 := below_grown2 (wr := wr) hgrow (by go_grown) hw hz O.out
        rw [← hb2.out] at hown
        go_roundg (k / 10 + (if o ++ [dig k] = [] then 1 else 0))
        case measure => exact hg2.out _ hg.out
        case rel => exact ⟨k / 10, o ++ [dig k], by omega, by go_num, hst.out, by simpa using hown, ⟨some ⟨g, 0, none⟩, cap, by simp⟩, hw2, Nat.le_refl _⟩
      · obtain rfl : k = 0 := by omega
        obtain rfl : o = [] := by rcases h0' with h | h; exact absurd h hk0; exact h
        replace O : Hid (wr.ownsRow w.heap.size 5 1 (.slice a 0 c) 0 []) := O
        replace hb2 : Hid (([] ++ [dig 0]).map bval = [.int .u8 48]) := rfl
        clear hk0
        simp only [List.length_nil]
        go_wp2_with (at_builtin; refine wpList_append_lies _ rfl _ _ _ rfl w.heap.size 5 i0 _ 1 1 Try.underlying22 I.out I0.out I1.out I2.out rfl (by omega) (.slice a 0 c) 0 [] rfl (own_below O.out (by go_grown)) ⟨wr.heap.size, 0, none⟩ 1 1 [.int .u8 48] rfl rfl (World.news_of_block (cs := #[.int .u8 48]) (t := 5) (fr := (0, 0)) (heap_alloc_new' _ _ _ (by simp))) (by intro u hu; simp at hu; subst hu; rfl) (by omega) (by unfold maxLen; omega) (by omega) (by simp; omega) _ rfl ?_; intro g cap w2 hown hgrow hat hlt2)
        have hw2 := below_grown2 (wr := wr) hgrow (by go_grown) hw hz O.out
        replace hown : w2.ownsRow w.heap.size 5 1 (.slice (some ⟨g, 0, none⟩) 1 cap) 1 (([] ++ [dig 0]).map bval) := by rw [hb2.out]; simpa using hown
        go_roundg (0 / 10 + (if [] ++ [dig 0] = [] then 1 else 0))
        case measure => exact hg2.out _ hg.out
        case rel => exact ⟨0, [] ++ [dig 0], by omega, by first | rfl | go_num, hst.out, hown, ⟨some ⟨g, 0, none⟩, cap, by simp⟩, hw2, Nat.le_refl _⟩
    · have hk0 : k = 0 := by omega
      have ho : o ≠ [] := fun h => h0 (.inr h)
      have hfin := hD.out.done hk0 ho
      subst hk0
      subst hfin
      obtain ⟨g, cap, hv, h1, h2, h3, h4, hB⟩ := own_bytes O (List.length_pos_iff.2 ho)
      obtain ⟨rfl, rfl⟩ : a = some ⟨g, 0, none⟩ ∧ c = cap := by injection hv with e1 e2 e3; exact ⟨e1, e3⟩
      obtain ⟨n, hn⟩ : ∃ n, n = (revd N).length := ⟨_, rfl⟩
      rw [← hn] at hB h3 hol
      have hn0 : 0 < n := by rw [hn]; exact List.length_pos_iff.2 ho
      have hc := reverseB_c g n c _ (by omega) h3 wr hB
      have hd2 : ((n : Int) == 0) = false := by simp; omega
      rw [← hn]
      replace hn := Lib.hid hn
      clear hD O hv ho h0 hB hg
      go_wp2_with fail
      refine hc.mono ?_
      rintro e w2 ⟨rfl, hB2, hb, hs2⟩
      have hrun := run_convert_bytes_back (P := Try.prog) w2 22 9 5 ⟨g, 0, none⟩ c (revd N).reverse Try.underlying22 Try.underlying5 Try.underlying9 (fun j hj => by
        have hj' : j < (revd N).length := by simpa using hj
        have := (hB2 j (by rw [hn.out]; exact hj')).1
        rw [show (Addr.add ⟨g, 0, none⟩ j) = ⟨g, j, none⟩ by (unfold Addr.add; split <;> simp_all), this, hn.out]
        rw [List.getElem_reverse]
        simp only [List.getD]
        rw [List.getElem?_eq_getElem (by omega)]
        simp)
      rw [List.length_reverse, ← hn.out] at hrun
      clear hc hB2
      go_wp2_with fail
      go_returns
      exact ⟨rfl, hw.trans (hb.mono h1)⟩

end Go.Proofs.Ytpblhonnknmjjaa

/- The text of a number: the reference's digits; NumText of both. -/
namespace Go.Proofs.Ytpblhonnknmjjaa
open Go.RowKit
set_option linter.unusedVariables false
set_option linter.unusedSimpArgs false
attribute [local go_sem] Ext.cell

theorem conv1 (W : World) (g k : Nat) (x : Int) (hx : x = 48 + (k : Int) % 10) (h : W.cell? ⟨g, 0, none⟩ = some (.int .u8 x)) : (convert 22 9 (Value.slice (some ⟨g, 0, none⟩) 1 1)).run Try.prog W = .ok (.string ⟨#[dig k]⟩) W := by
  refine run_convert_bytes_back (P := Try.prog) _ 22 9 5 ⟨g, 0, none⟩ 1 [dig k] Try.underlying22 Try.underlying5 Try.underlying9 (fun j hj => ?_)
  obtain rfl : j = 0 := by simp at hj; exact hj
  have e : (dig k).toNat = 48 + k % 10 := dig_toNat k
  show W.cell? ⟨g, 0, none⟩ = some (.int .u8 ((dig k).toNat : Int))
  rw [h, hx, e]
  simp

theorem numS_small {N : Nat} (h : N < 10) : numS N = ⟨#[dig N]⟩ := by unfold numS; rw [revd_small h]; rfl
theorem numS_step {N : Nat} (h : ¬ N < 10) : numS N = numS (N / 10) ++ ⟨#[dig N]⟩ := by
  apply ByteArray.ext
  apply Array.ext'
  unfold numS
  rw [revd_step h]
  simp

set_option maxRecDepth 100000 in
set_option maxHeartbeats 4000000 in
theorem l01Digits_small (N : Nat) (hN : N < 10) (w : World) :
    Calls Try.prog 75 #[.int .i64 (-(N : Int))] w fun e w' => e = .returned (.string (numS N)) ∧ Below w.heap.size w w' := by
  rw [numS_small hN]
  have hrun := conv1 (w.alloc (.cells #[.int .u8 (48 + (N : Int))] 5)) w.heap.size N (48 + (N : Int)) (by omega) (by simp [go_sem])
  have d1 : decide (-10 < -(N : Int)) = true := decide_eq_true (by omega)
  go_enter Try.func75, Try.ntmps75
  go_wp2_with fail
  go_returns
  exact ⟨rfl, by go_grown⟩

set_option maxRecDepth 100000 in
set_option maxHeartbeats 4000000 in
theorem l01Digits_c : ∀ (N : Nat), N ≤ 4611686018427387904 → ∀ (w : World),
    Calls Try.prog 75 #[.int .i64 (-(N : Int))] w fun e w' => e = .returned (.string (numS N)) ∧ Below w.heap.size w w' := by
  intro N
  induction N using Nat.strongRecOn with
  | _ N ih =>
    intro hN w
    by_cases h : N < 10
    · exact l01Digits_small N h w
    · have hc := fun W => ih (N / 10) (by omega) (by omega) W
      rw [numS_step h]
      clear ih
      have hlen : (numS (N / 10)).size ≤ 19 := by
        have := revd_len 18 (N / 10) (by omega)
        show (revd (N / 10)).reverse.toArray.size ≤ 19
        simpa using this
      generalize numS (N / 10) = sN at *
      have hq : (-(N : Int)).tdiv 10 = -((N / 10 : Nat) : Int) := by rw [Int.neg_tdiv, Int.tdiv_eq_ediv_of_nonneg (by omega)]; simp
      have hr : (-(N : Int)).tmod 10 = -((N % 10 : Nat) : Int) := by rw [Int.neg_tmod, Int.tmod_eq_emod_of_nonneg (by omega)]; simp
      have d1 : decide (-10 < -(N : Int)) = false := decide_eq_false (by omega)
      have hc : ∀ W, Calls Try.prog 75 #[.int .i64 (-((N : Int) / 10))] W fun e w' => e = .returned (.string sN) ∧ Below W.heap.size W w' := fun W => by have h := hc W; rw [show ((N / 10 : Nat) : Int) = (N : Int) / 10 by simp] at h; exact h
      replace hc := Lib.hid hc
      have q1 : IntKind.i64.wrap (-((N : Int) / 10)) = -((N : Int) / 10) := IntWalk.i64_in _ ⟨by omega, by omega⟩
      have q2 : IntKind.i64.wrap (48 + (N : Int) % 10) = 48 + (N : Int) % 10 := IntWalk.i64_in _ ⟨by omega, by omega⟩
      have q3 : IntKind.u8.wrap (48 + (N : Int) % 10) = 48 + (N : Int) % 10 := IntWalk.u8_in _ ⟨by omega, by omega⟩
      have hr2 : (N : Int).tmod 10 = (N : Int) % 10 := Int.tmod_eq_emod_of_nonneg (by omega)
      have hcv := fun (W : World) (g : Nat) => conv1 W g N (48 + (N : Int) % 10) rfl
      have hl : sN.size + 1 ≤ 9223372036854775807 := by omega
      have hl2 : (9223372036854775807 < sN.size + 1) = False := by simp; omega
      clear hq hr hlen hN
      go_enter Try.func75, Try.ntmps75
      go_wp2_with fail
      go_region_law ((go_simp; go_at_call 75; ((with_reducible refine (hc.out _).mono ?_); rintro e w1 ⟨rfl, hb⟩; (first | (refine (fun (e1 : w1.cell? ⟨w.heap.size, 0, none⟩ = some (.int .u8 (48 + (N : Int) % 10))) => ?_) ?_; rotate_left; focus (refine cell_below hb ?_; simp [go_sem]; done)) | skip))))
      all_goals go_wp2_with fail
      all_goals go_returns
      all_goals have hB : Below w.heap.size w w1 := Below.trans (by go_grown) (hb.mono (by simp))
      all_goals have hs1 := hB.size
      all_goals exact ⟨rfl, by go_grown⟩

/-- The text of a number of 63 bits; of others none. -/
def numText (n : Int) : ByteArray := if -4611686018427387904 ≤ n ∧ n ≤ 4611686018427387903 then (if n < 0 then ⟨#[45]⟩ ++ numS n.natAbs else numS n.natAbs) else ByteArray.empty
theorem numS_len (N : Nat) (h : N ≤ 4611686018427387904) : (numS N).size ≤ 19 := by
  have := revd_len 18 N (by omega)
  show (revd N).reverse.toArray.size ≤ 19
  simpa using this

set_option maxHeartbeats 4000000 in
theorem impl_NumText_c (n : Int) (hi : I64 n) (w : World) :
    Calls Try.prog 48 #[.int .i64 n] w fun e w' => e = .returned (.string (numText n)) ∧ Below w.heap.size w w' := by
  obtain ⟨hi0, hi1⟩ := hi
  have W1 := fun W => within_c n (-4611686018427387904) 4611686018427387903 W
  unfold numText
  by_cases h : -4611686018427387904 ≤ n ∧ n ≤ 4611686018427387903
  · rw [decide_eq_true h] at W1
    rw [if_pos h]
    by_cases hn : n < 0
    · obtain ⟨N, rfl⟩ : ∃ N : Nat, n = -(N : Int) := ⟨n.natAbs, by omega⟩
      rw [if_pos hn, Int.natAbs_neg, Int.natAbs_natCast]
      have c1 := fun W => digits_c N (by omega) W
      have hl := numS_len N (by omega)
      generalize numS N = sN at *
      have hl2 : (9223372036854775807 < 1 + sN.size) = False := by simp; omega
      have d1 : decide (-(N : Int) < 0) = true := decide_eq_true hn
      have hn1 : (N : Int) ≤ 9223372036854775807 := by omega
      have hn2 : 0 < N := by omega
      clear h hi0 hi1 hn
      go_enter Try.func48, Try.ntmps48
      go_wp2_with (first | (go_at_call 41; ((with_reducible refine (W1 _).mono ?_); rintro e w1 ⟨rfl, rfl⟩)) | (go_at_call 73; ((with_reducible refine (c1 _).mono ?_); rintro e w1 ⟨rfl, hb⟩)))
      go_returns
      exact ⟨rfl, hb⟩
    · obtain ⟨N, rfl⟩ : ∃ N : Nat, n = N := ⟨n.natAbs, by omega⟩
      rw [if_neg hn, Int.natAbs_natCast]
      have c1 := fun W => digits_c N (by omega) W
      generalize numS N = sN at *
      have d1 : decide ((N : Int) < 0) = false := decide_eq_false hn
      have hn1 : (N : Int) ≤ 9223372036854775807 := by omega
      clear h hi0 hi1
      go_enter Try.func48, Try.ntmps48
      go_wp2_with (first | (go_at_call 41; ((with_reducible refine (W1 _).mono ?_); rintro e w1 ⟨rfl, rfl⟩)) | (go_at_call 73; ((with_reducible refine (c1 _).mono ?_); rintro e w1 ⟨rfl, hb⟩)))
      go_returns
      exact ⟨rfl, hb⟩
  · rw [decide_eq_false h] at W1
    rw [if_neg h]
    clear h
    go_enter Try.func48, Try.ntmps48
    go_wp2_with (go_at_call 41; ((with_reducible refine (W1 _).mono ?_); rintro e w1 ⟨rfl, rfl⟩))
    go_returns
    exact ⟨rfl, Below.refl _ _⟩

set_option maxHeartbeats 4000000 in
theorem spec_NumText_c (n : Int) (hi : I64 n) (w : World) :
    Calls Try.prog 50 #[.int .i64 n] w fun e w' => e = .returned (.string (numText n)) ∧ Below w.heap.size w w' := by
  have W1 := fun W => Wrap_c n hi W
  obtain ⟨hi0, hi1⟩ := hi
  unfold numText
  by_cases h : -4611686018427387904 ≤ n ∧ n ≤ 4611686018427387903
  · rw [(wrap63_eq n).2 h] at W1
    rw [if_pos h]
    have d0 : (n != n) = false := by simp
    by_cases hn : n < 0
    · obtain ⟨N, rfl⟩ : ∃ N : Nat, n = -(N : Int) := ⟨n.natAbs, by omega⟩
      rw [if_pos hn, Int.natAbs_neg, Int.natAbs_natCast]
      have c1 := fun W => l01Digits_c N (by omega) W
      have hl := numS_len N (by omega)
      generalize numS N = sN at *
      have hl2 : (9223372036854775807 < 1 + sN.size) = False := by simp; omega
      have d1 : decide (-(N : Int) < 0) = true := decide_eq_true hn
      have hn1 : (N : Int) ≤ 9223372036854775807 := by omega
      have hn2 : 0 < N := by omega
      clear h hi0 hi1 hn
      go_enter Try.func50, Try.ntmps50
      go_wp2_with (first | (go_at_call 23; ((with_reducible refine (W1 _).mono ?_); rintro e w1 ⟨rfl, rfl⟩)) | (go_at_call 75; ((with_reducible refine (c1 _).mono ?_); rintro e w1 ⟨rfl, hb⟩)))
      go_returns
      exact ⟨rfl, hb⟩
    · obtain ⟨N, rfl⟩ : ∃ N : Nat, n = N := ⟨n.natAbs, by omega⟩
      rw [if_neg hn, Int.natAbs_natCast]
      have c1 := fun W => l01Digits_c N (by omega) W
      generalize numS N = sN at *
      have d1 : decide ((N : Int) < 0) = false := decide_eq_false hn
      have hn1 : (N : Int) ≤ 9223372036854775807 := by omega
      clear h hi0 hi1
      go_enter Try.func50, Try.ntmps50
      go_wp2_with (first | (go_at_call 23; ((with_reducible refine (W1 _).mono ?_); rintro e w1 ⟨rfl, rfl⟩)) | (go_at_call 75; ((with_reducible refine (c1 _).mono ?_); rintro e w1 ⟨rfl, hb⟩)))
      go_returns
      exact ⟨rfl, hb⟩
  · rw [if_neg h]
    have d0 : (wrap63 n != n) = true := by simp [wrap63_eq]; omega
    generalize wrap63 n = wn at *
    clear h
    go_enter Try.func50, Try.ntmps50
    go_wp2_with (go_at_call 23; ((with_reducible refine (W1 _).mono ?_); rintro e w1 ⟨rfl, rfl⟩))
    go_returns
    exact ⟨rfl, Below.refl _ _⟩

end Go.Proofs.Ytpblhonnknmjjaa

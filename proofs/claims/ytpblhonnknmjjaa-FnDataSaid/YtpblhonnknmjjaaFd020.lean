/- Parts of the proof, merged: MarkD, MarkE. -/
import Derived.Test.YtpblhonnknmjjaaFd019
/- Marks of a list of nodes that the call owns: markDNodeS. -/
namespace Go.Proofs.Ytpblhonnknmjjaa
open Go.RowKit
set_option linter.unusedVariables false
set_option linter.unusedSimpArgs false
attribute [local go_sem] Ext.cell

theorem Kept.imp {S S' : Nat → Prop} {w w' : World} (h : Kept S w w') (hi : ∀ q, S q → S' q) : Kept S' w w' := fun k h1 h2 => h k h1 fun hs => h2 (hi k hs)
/-- The mark behind the nodes ps, the first mark k. -/
def kS (k : Nat) (ps : List DRow) : Nat := k + (ps.map fun p => 3 + p.1.kids.length).sum
theorem kS_snoc (k : Nat) (ps : List DRow) (p : DRow) : kS k (ps ++ [p]) = kS k ps + 3 + p.1.kids.length := by
  unfold kS; simp; omega
theorem kS_take {ps : List DRow} {j : Nat} {p : DRow} (k : Nat) (h : ps[j]? = some p) : kS k (ps.take (j + 1)) = kS k (ps.take j) + 3 + p.1.kids.length := by
  rw [← kS_snoc, List.take_add_one, h]; rfl
theorem kS_le (k : Nat) (ps : List DRow) (j : Nat) : kS k (ps.take j) ≤ kS k ps := by
  unfold kS
  have h := sum_take_nat (fun p : DRow => 3 + p.1.kids.length) ps j
  omega
theorem kS_len (k : Nat) (ps : List DRow) : ps.length ≤ kS k ps := by
  induction ps with
  | nil => simp
  | cons p ps ih => simp only [kS, List.map_cons, List.sum_cons, List.length_cons] at *; omega
/-- The mark of cell t (0, 1, 2) of a node whose first mark is a. -/
def mkD (a : Nat) : Nat → Value
  | 0 => .int .i64 (a : Int)
  | 1 => .int .i64 ((a + 1 : Nat) : Int)
  | _ => .string (markT (a + 2))
/-- Node i is marked from a on. -/
def NodeM (w : World) (b off i a : Nat) (p : DRow) : Prop := (∀ t, t < 3 → w.cell? ⟨b, off + (i * 4 + t), none⟩ = some (mkD a t)) ∧ MkInts w (kidsV p) p.1.kids.length (a + 3)
/-- The first j nodes are marked, the others not yet. -/
structure MSt (lo : Nat) (w : World) (b off k : Nat) (ps : List DRow) (j : Nat) : Prop where
  wr : Wr w b off (ps.length * 4)
  kid : ∀ i p, ps[i]? = some p → w.cell? ⟨b, off + (i * 4 + 3), none⟩ = some (kidsV p)
  don : ∀ i p, i < j → ps[i]? = some p → NodeM w b off i (kS k (ps.take i)) p
  rest : ∀ i p, j ≤ i → ps[i]? = some p → OwnF 3 1 intRow I64 lo w (kidsV p) p.1.kids
/-- Within the round of node j: t of its cells are marked. -/
structure Mid (w0 w : World) (b off n j a t : Nat) : Prop where
  wr : Wr w b off (n * 4)
  oth : ∀ i, i < n * 4 → (i < j * 4 ∨ j * 4 + 3 ≤ i) → w.cell? ⟨b, off + i, none⟩ = w0.cell? ⟨b, off + i, none⟩
  don : ∀ i, i < t → w.cell? ⟨b, off + (j * 4 + i), none⟩ = some (mkD a i)
  kept : Kept (· = b) w0 w
  size : w0.heap.size ≤ w.heap.size
theorem Mid.start {w : World} {b off n j a : Nat} (h : Wr w b off (n * 4)) : Mid w w b off n j a 0 := ⟨h, fun _ _ _ => rfl, fun i h => absurd h (by omega), Kept.refl _ _, Nat.le_refl _⟩
theorem Mid.below {w0 w w' : World} {b off n j a t : Nat} (h : Mid w0 w b off n j a t) (hj : j < n) (ht : t ≤ 3) (hb : Below w.heap.size w w') : Mid w0 w' b off n j a t :=
  ⟨h.wr.below hb, fun i h1 h2 => by
    obtain ⟨c, h3, _⟩ := h.wr i h1
    rw [← h.oth i h1 h2, h3]
    exact cell_below hb h3, fun i hi => cell_below hb (h.don i hi), h.kept.trans h.size (Kept.below hb), Nat.le_trans h.size hb.size⟩
theorem Mid.set {w0 w : World} {b off n j a t : Nat} (h : Mid w0 w b off n j a t) (hj : j < n) (ht : t < 3) {u : Value} (hu : u = mkD a t) : Mid w0 (w.setCell ⟨b, off + (j * 4 + t), none⟩ u) b off n j a (t + 1) :=
  ⟨h.wr.set _ _, fun i h1 h2 => by rw [cell_setCell_ne _ _ _ _ _ (by omega)]; exact h.oth i h1 h2, fun i hi => by
    by_cases e : i = t
    · subst e
      obtain ⟨c, h3, _⟩ := h.wr (j * 4 + i) (by omega)
      rw [cell_setCell_eq _ _ _ _ h3, hu]
    · rw [cell_setCell_ne _ _ _ _ _ (by omega)]
      exact h.don i (by omega), h.kept.set rfl u, by simpa [World.setCell] using h.size⟩
/-- The round's end. -/
theorem MSt.step {lo : Nat} {w0 w w' : World} {b off k : Nat} {ps : List DRow} {j : Nat} {p : DRow} (h : MSt lo w0 b off k ps j) (hp : ps[j]? = some p) (hne : ∀ q ∈ ps, (kidsV q).ownBlock ≠ some b) (hD : DisjK ps)
    (hM : Mid w0 w b off ps.length j (kS k (ps.take j)) 3) (hI : MkInts w' (kidsV p) p.1.kids.length (kS k (ps.take j) + 3)) (hK : Kept (fun q => (kidsV p).ownBlock = some q) w w') : MSt lo w' b off k ps (j + 1) := by
  have hj : j < ps.length := (List.getElem?_eq_some_iff.1 hp).1
  have hnb : ¬ (kidsV p).ownBlock = some b := hne p (List.mem_of_getElem? hp)
  have K0 : Kept (fun q => q = b ∨ (kidsV p).ownBlock = some q) w0 w' := fun q h1 h2 => (hK q (Nat.lt_of_lt_of_le h1 hM.size) fun e => h2 (.inr e)).trans (hM.kept q h1 fun e => h2 (.inl e))
  have hc : ∀ {i : Nat} {c : Value}, w.cell? ⟨b, off + i, none⟩ = some c → w'.cell? ⟨b, off + i, none⟩ = some c := fun {i c} h1 => by
    rw [World.cell?_of_block (w := w) (a := ⟨b, off + i, none⟩) (hK b (World.block_lt_of_cell? w _ h1) hnb)]; exact h1
  have hdis : ∀ i q, i ≠ j → ps[i]? = some q → ∀ x, (kidsV q).ownBlock = some x → ¬ (x = b ∨ (kidsV p).ownBlock = some x) := fun i q hij hq x hx h1 => by
    rcases h1 with rfl | h1
    · exact hne q (List.mem_of_getElem? hq) hx
    · have hpw := List.pairwise_iff_getElem.1 hD
      obtain ⟨hi, rfl⟩ := List.getElem?_eq_some_iff.1 hq
      obtain ⟨hj', rfl⟩ := List.getElem?_eq_some_iff.1 hp
      rcases Nat.lt_or_gt_of_ne hij with h | h
      · exact hpw i j hi hj' h x hx h1
      · exact hpw j i hj' hi h x h1 hx
  refine ⟨hM.wr.kept hK hnb, fun i q hq => ?_, fun i q hi hq => ?_, fun i q hi hq => ?_⟩
  · refine hc ?_
    have hi : i < ps.length := (List.getElem?_eq_some_iff.1 hq).1
    rw [hM.oth (i * 4 + 3) (by omega) (by omega)]
    exact h.kid i q hq
  · by_cases e : i = j
    · subst e
      obtain rfl : p = q := by rw [hp] at hq; exact Option.some.inj hq
      exact ⟨fun t ht => hc (hM.don t ht), hI⟩
    · have hil : i < ps.length := (List.getElem?_eq_some_iff.1 hq).1
      obtain ⟨h1, h2⟩ := h.don i q (by omega) hq
      refine ⟨fun t ht => hc ?_, h2.kept K0 (hdis i q e hq)⟩
      rw [hM.oth (i * 4 + t) (by omega) (by omega)]
      exact h1 t ht
  · exact (h.rest i q (by omega) hq).kept K0 (hdis i q (by omega) hq)

set_option maxRecDepth 100000 in
set_option maxHeartbeats 4000000 in
theorem markDNodeS_c (b off n cap k lo : Nat) (ps : List DRow) (hn : n = ps.length) (hlo : lo ≤ b) (hkn : kS k ps ≤ 4611686018427387904) (hln : n ≤ 4611686018427387904) (w : World) (hb0 : b < w.heap.size) (S : MSt lo w b off k ps 0) (hne : ∀ q ∈ ps, (kidsV q).ownBlock ≠ some b) (hD : DisjK ps) (Q : Nat → Prop) (hQ1 : Q b) (hQ2 : ∀ p ∈ ps, ∀ g, (kidsV p).ownBlock = some g → Q g) :
    Calls Try.prog 35 #[.slice (some ⟨b, off, none⟩) n cap, .int .i64 k] w fun e w' => e = .returned (.int .i64 (kS k ps : Nat)) ∧ MSt lo w' b off k ps n ∧ Below lo w w' ∧ Kept Q w w' := by
  replace hQ2 := Lib.hid hQ2; replace hQ1 := Lib.hid hQ1; replace hne := Lib.hid hne; replace hD := Lib.hid hD; replace S := Lib.hid S; replace hn := Lib.hid hn; replace hkn := Lib.hid hkn
  go_enter Try.func35, Try.ntmps35
  go_wp2_with fail
  go_loopw [1, 5] (fun kk i wr => ∃ m j : Nat, j ≤ n ∧ Hid (m = kS k (ps.take j)) ∧ kk = .int .i64 m ∧ i = .int .i64 j ∧ Hid (MSt lo wr b off k ps j) ∧ Below lo w wr ∧ Hid (Kept Q w wr)) (fun _ i _ => n - (intOf i).toNat)
  case atStart => exact ⟨k, 0, by omega, by show _ = _; simp [kS], rfl, rfl, S, Below.refl _ _, Kept.refl _ _⟩
  case round =>
    clear S
    obtain ⟨m, j, hj, hm, rfl, rfl, S, hw0, hK0⟩ := hrel
    have hz0 := hw0.size
    by_cases hlt : j < n
    · obtain ⟨p, hp⟩ : ∃ p, ps[j]? = some p := ⟨_, List.getElem?_eq_getElem (by have := hn.out; omega)⟩
      have hks := kS_take k hp
      have hle := kS_le k ps (j + 1)
      have hm3 : m + 3 + p.1.kids.length ≤ 4611686018427387904 := by have := hkn.out; have := hm.out; omega
      have hM := Mid.start (j := j) (a := m) S.out.wr
      have hO := S.out.rest j p (Nat.le_refl _) hp
      have hkid := S.out.kid j p hp
      have hnb : (kidsV p).ownBlock ≠ some b := hne.out p (List.mem_of_getElem? hp)
      rw [← hn.out] at hM
      obtain ⟨kv, hkv⟩ : ∃ x, x = kidsV p := ⟨_, rfl⟩
      obtain ⟨nk, hnk⟩ : ∃ x, x = p.1.kids.length := ⟨_, rfl⟩
      rw [← hkv] at hO hkid hnb
      rw [← hnk] at hm3 hks
      obtain ⟨⟨c0, e0, f0⟩, ⟨c1, e1, f1⟩⟩ : (∃ c, wr.cell? ⟨b, off + j * 4, none⟩ = some c ∧ wr.frozen? ⟨b, off + j * 4, none⟩ = false) ∧ (∃ c, wr.cell? ⟨b, off + j * 4 + 1, none⟩ = some c ∧ wr.frozen? ⟨b, off + j * 4 + 1, none⟩ = false) :=
        ⟨hM.wr (j * 4 + 0) (by omega), hM.wr (j * 4 + 1) (by omega)⟩
      replace hM := Lib.hid hM; replace hO := Lib.hid hO; replace hkid := Lib.hid hkid; replace hnb := Lib.hid hnb; replace hkv := Lib.hid hkv; replace hnk := Lib.hid hnk; replace hks := Lib.hid hks; replace hp := Lib.hid hp; replace hle := Lib.hid hle
      go_wp2_with fail
      refine (markText_z (m + 2) _ (by omega) (by omega) _).mono ?_
      rintro e w2 ⟨rfl, hb2⟩
      have hM1 := ((hM.out.set hlt (by omega) (u := .int .i64 (m : Int)) rfl).set hlt (by omega) (u := .int .i64 ((m : Int) + 1)) (by show Value.int .i64 _ = Value.int .i64 _; congr 1)).below hlt (by omega) hb2
      have hB2 : Below lo w w2 := ((hw0.setCell (p := ⟨b, off + (j * 4 + 0), none⟩) (by dsimp only; omega) (.int .i64 (m : Int))).setCell (p := ⟨b, off + (j * 4 + 1), none⟩) (by dsimp only; omega) (.int .i64 ((m : Int) + 1))).trans (hb2.mono (by simp [World.setCell]; omega))
      clear hb2 e0 f0 e1 f1
      obtain ⟨c2, e2, f2⟩ : (∃ c, w2.cell? ⟨b, off + j * 4 + 2, none⟩ = some c ∧ w2.frozen? ⟨b, off + j * 4 + 2, none⟩ = false) := hM1.wr (j * 4 + 2) (by omega)
      have e3 : w2.cell? ⟨b, off + j * 4 + 3, none⟩ = some kv := (hM1.oth (j * 4 + 3) (by omega) (by omega)).trans hkid.out
      have hM2 := hM1.set hlt (by omega) (u := .string (markT (m + 2))) rfl
      have hO2 := hO.out.kept hM2.kept (fun x hx e => hnb.out (by rw [hx, e]))
      have hz2 := hB2.size
      replace hM1 := Lib.hid hM1; replace hM2 := Lib.hid hM2; replace hO2 := Lib.hid hO2
      generalize markT (m + 2) = st at *
      go_wp2_with fail
      refine (markInts_c kv nk (m + 3) lo _ _ (by omega) rfl (by omega) _ _ (by rw [hnk.out]; exact hO2.out.1) (by simp [World.setCell]; omega)).mono ?_
      rintro e w3 ⟨rfl, hI, hB, hK⟩
      have hz3 := hB.size
      have S3 : Hid (MSt lo w3 b off k ps (j + 1)) := by
        have hM3 := hM2.out
        have hI3 := hI
        have hK3 := hK
        rw [hn.out, hm.out] at hM3
        rw [hkv.out, hnk.out, hm.out] at hI3
        rw [hkv.out] at hK3
        exact S.out.step hp.out hne.out hD.out hM3 hI3 hK3
      have hB3 : Below lo w w3 := (hB2.setCell (p := ⟨b, off + (j * 4 + 2), none⟩) (by dsimp only; omega) (.string st)).trans hB
      have hK3 : Hid (Kept Q w w3) := hK0.out.trans hz0 ((hM2.out.kept.imp fun q e => by rw [e]; exact hQ1.out).trans hM2.out.size (hK.imp fun q e => hQ2.out p (List.mem_of_getElem? hp.out) q (by rw [← hkv.out]; exact e)))
      clear hI hB hK hK0
      go_wp2_with fail
      go_roundw
      case rel => exact ⟨m + 3 + nk, j + 1, by omega, by show _ = _; rw [hks.out, ← hm.out], by go_num, by go_num, S3, hB3, hK3⟩
      case measure => simp [intOf]; omega
    · obtain rfl : j = n := by omega
      go_wp2
      go_returns
      refine ⟨?_, S.out, hw0, hK0.out⟩
      have := hm.out
      rw [List.take_of_length_le (by have := hn.out; omega)] at this
      rw [this]
      rfl

end Go.Proofs.Ytpblhonnknmjjaa

/- Marks of a list of nodes that the call owns, read again: heldDNodeS; markData, heldData. -/
namespace Go.Proofs.Ytpblhonnknmjjaa
open Go.RowKit
set_option linter.unusedVariables false
set_option linter.unusedSimpArgs false
attribute [local go_sem] Ext.cell

/-- All nodes are marked. -/
structure NodesM (w : World) (b off k : Nat) (ps : List DRow) : Prop where
  kid : ∀ i p, ps[i]? = some p → w.cell? ⟨b, off + (i * 4 + 3), none⟩ = some (kidsV p)
  don : ∀ i p, ps[i]? = some p → NodeM w b off i (kS k (ps.take i)) p
theorem MSt.nodes {lo : Nat} {w : World} {b off k : Nat} {ps : List DRow} (h : MSt lo w b off k ps ps.length) : NodesM w b off k ps := ⟨h.kid, fun i p hp => h.don i p (List.getElem?_eq_some_iff.1 hp).1 hp⟩
theorem NodesM.below {w w' : World} {b off k : Nat} {ps : List DRow} (h : NodesM w b off k ps) (hb : Below w.heap.size w w') : NodesM w' b off k ps :=
  ⟨fun i p hp => cell_below hb (h.kid i p hp), fun i p hp => ⟨fun t ht => cell_below hb ((h.don i p hp).1 t ht), (h.don i p hp).2.below hb⟩⟩

set_option maxRecDepth 100000 in
set_option maxHeartbeats 8000000 in
theorem heldDNodeS_c (b off n cap k : Nat) (ps : List DRow) (hn : n = ps.length) (hkn : kS k ps ≤ 4611686018427387904) (hln : n ≤ 4611686018427387904) (w : World) (S : NodesM w b off k ps) :
    Calls Try.prog 36 #[.slice (some ⟨b, off, none⟩) n cap, .int .i64 k] w fun e w' => e = .returned (.int .i64 (kS k ps : Nat)) ∧ Below w.heap.size w w' := by
  replace S := Lib.hid S; replace hn := Lib.hid hn; replace hkn := Lib.hid hkn
  go_enter Try.func36, Try.ntmps36
  go_wp2_with fail
  go_loopw [1, 5] (fun kk i wr => ∃ m j : Nat, j ≤ n ∧ Hid (m = kS k (ps.take j)) ∧ kk = .int .i64 m ∧ i = .int .i64 j ∧ Below w.heap.size w wr) (fun _ i _ => n - (intOf i).toNat)
  case atStart => exact ⟨k, 0, by omega, by show _ = _; simp [kS], rfl, rfl, Below.refl _ _⟩
  case round =>
    obtain ⟨m, j, hj, hm, rfl, rfl, hw0⟩ := hrel
    have hz0 := hw0.size
    by_cases hlt : j < n
    · obtain ⟨p, hp⟩ : ∃ p, ps[j]? = some p := ⟨_, List.getElem?_eq_getElem (by have := hn.out; omega)⟩
      have hks := kS_take k hp
      have hle := kS_le k ps (j + 1)
      have hm3 : m + 3 + p.1.kids.length ≤ 4611686018427387904 := by have := hkn.out; have := hm.out; omega
      have S0 := S.out.below hw0
      obtain ⟨hD, hI⟩ := S0.don j p hp
      rw [← hm.out] at hD hI
      have e0 : wr.cell? ⟨b, off + j * 4, none⟩ = some (.int .i64 (m : Int)) := hD 0 (by omega)
      have e1 : wr.cell? ⟨b, off + j * 4 + 1, none⟩ = some (.int .i64 ((m : Int) + 1)) := (hD 1 (by omega)).trans (by show some (Value.int .i64 _) = some (Value.int .i64 _); congr 2)
      have e2 : ∀ z : Ext wr, z.val.cell? ⟨b, off + j * 4 + 2, none⟩ = some (.string (markT (m + 2))) := fun z => cell_below z.property (hD 2 (by omega))
      have e3 := S0.kid j p hp
      obtain ⟨kv, hkv⟩ : ∃ x, x = kidsV p := ⟨_, rfl⟩
      obtain ⟨nk, hnk⟩ : ∃ x, x = p.1.kids.length := ⟨_, rfl⟩
      rw [← hkv] at hI e3
      rw [← hnk] at hm3 hks hI
      replace hI := Lib.hid hI; replace hks := Lib.hid hks; replace hp := Lib.hid hp; replace hle := Lib.hid hle; replace e3 := Lib.hid e3; replace hkv := Lib.hid hkv; replace hnk := Lib.hid hnk
      clear hD S0
      have ct := fun W => markText_z (m + 2) ((m : Int) + 1 + 1) (by omega) (by omega) W
      generalize markT (m + 2) = st at *
      go_wp2_with fail
      refine wp_region_ext_lit (by kernel_rfl) (by kernel_rfl) ?_
      repeat (go_big_quiet_step ((go_at_call 66; exact Calls.ext (ct _))))
      refine wpQuiet_nil ?_
      rintro w1 ⟨⟨_, hb⟩, rfl⟩
      have hw1 := hw0.trans (hb.mono hz0)
      have hI1 := hI.out.below hb
      have e4 : w1.cell? ⟨b, off + j * 4 + 3, none⟩ = some kv := cell_below hb e3.out
      clear e0 e1 e2 ct hb hw0
      have hz1 := hw1.size
      go_wp2_with fail
      refine (heldInts_c kv nk (m + 3) _ _ (by omega) rfl (by omega) _ hI1).mono ?_
      rintro e w2 ⟨rfl, hb2⟩
      go_wp2_with fail
      go_roundw
      case rel => exact ⟨m + 3 + nk, j + 1, by omega, by show _ = _; rw [hks.out, ← hm.out], by go_num, by go_num, hw1.trans (hb2.mono hz1)⟩
      case measure => simp [intOf]; omega
    · obtain rfl : j = n := by omega
      go_wp2
      go_returns
      refine ⟨?_, hw0⟩
      have := hm.out
      rw [List.take_of_length_le (by have := hn.out; omega)] at this
      rw [this]
      rfl

/-- The whole value, nil or not. -/
def MkD (w : World) (v : Value) (k : Nat) (ps : List DRow) : Prop := (v = .slice none 0 0 ∧ ps = []) ∨ ∃ g cap, v = .slice (some ⟨g, 0, none⟩) ps.length cap ∧ NodesM w g 0 k ps
theorem MkD.below {w w' : World} {v : Value} {k : Nat} {ps : List DRow} (h : MkD w v k ps) (hb : Below w.heap.size w w') : MkD w' v k ps := by
  rcases h with h | ⟨g, cap, hv, hM⟩
  · exact .inl h
  · exact .inr ⟨g, cap, hv, hM.below hb⟩
set_option maxHeartbeats 1000000 in
theorem markDNodeS_nil (z : Int) (w : World) :
    Calls Try.prog 35 #[.slice none 0 0, .int .i64 z] w fun e w' => e = .returned (.int .i64 z) ∧ Below w.heap.size w w' := by
  go_enter Try.func35, Try.ntmps35
  go_wp2_with fail
  go_loopw [1, 5] (fun kk i wr => kk = .int .i64 z ∧ i = .int .i64 0 ∧ Below w.heap.size w wr) (fun _ _ _ => 0)
  case atStart => exact ⟨rfl, rfl, Below.refl _ _⟩
  case round =>
    obtain ⟨rfl, rfl, hw⟩ := hrel
    go_wp2
    go_returns
    exact ⟨rfl, hw⟩
set_option maxHeartbeats 1000000 in
theorem heldDNodeS_nil (z : Int) (w : World) :
    Calls Try.prog 36 #[.slice none 0 0, .int .i64 z] w fun e w' => e = .returned (.int .i64 z) ∧ Below w.heap.size w w' := by
  go_enter Try.func36, Try.ntmps36
  go_wp2_with fail
  go_loopw [1, 5] (fun kk i wr => kk = .int .i64 z ∧ i = .int .i64 0 ∧ Below w.heap.size w wr) (fun _ _ _ => 0)
  case atStart => exact ⟨rfl, rfl, Below.refl _ _⟩
  case round =>
    obtain ⟨rfl, rfl, hw⟩ := hrel
    go_wp2
    go_returns
    exact ⟨rfl, hw⟩
/-- The blocks that the nodes take. -/
def InD (v : Value) (ps : List DRow) (q : Nat) : Prop := v.ownBlock = some q ∨ ∃ p ∈ ps, (kidsV p).ownBlock = some q
theorem markD_c (A : Nat → Prop) (v : Value) (ps : List DRow) (k lo : Nat) (w : World) (O : OwnD A 44 lo w v ps) (D : DisjK ps) (K : KO lo w ps) (hlo : lo ≤ w.heap.size) (hkn : kS k ps ≤ 4611686018427387904) :
    Calls Try.prog 35 #[v, .int .i64 k] w fun e w' => e = .returned (.int .i64 (kS k ps : Nat)) ∧ MkD w' v k ps ∧ Below lo w w' ∧ Kept (InD v ps) w w' := by
  by_cases h0 : 0 < ps.length
  · obtain ⟨g, cap, rfl, h1, h2, h3, h4, h5, h6⟩ := own_cells O.own.1 h0
    refine (markDNodeS_c g 0 ps.length cap k lo ps rfl h1 hkn (Nat.le_trans (kS_len k ps) hkn) w h2 ⟨h6, fun i p hp => ?_, fun i p hi => absurd hi (by omega), fun i p _ hp => K p (List.mem_of_getElem? hp)⟩ (fun q hq e => ((O.kids q hq).2 g e).1.1 rfl) D _ (.inl rfl) (fun p hp g hg => .inr ⟨p, hp, hg⟩)).mono fun e w' ⟨he, hS, hB, hK⟩ => ⟨he, .inr ⟨g, cap, rfl, hS.nodes⟩, hB, hK⟩
    exact h5 (i * 4 + 3) _ (flatD.get hp rfl)
  · obtain rfl : ps = [] := List.length_eq_zero_iff.1 (by omega)
    rcases O.own.1.2 with ⟨rfl, _⟩ | ⟨g, cap, cur, rfl, h1, h2, h3⟩
    · exact (markDNodeS_nil k w).mono fun e w' ⟨he, hb⟩ => ⟨he, .inl ⟨rfl, rfl⟩, hb.mono hlo, Kept.below hb⟩
    · have hlt : g < w.heap.size := by
        rcases Nat.lt_or_ge g w.heap.size with hlt | hge
        · exact hlt
        · rw [Array.getElem?_eq_none hge] at h2; cases h2
      refine (markDNodeS_c g 0 0 cap k lo [] rfl h1 hkn (by omega) w hlt ⟨fun j hj => absurd hj (by simp), fun i p hp => by simp at hp, fun i p hi => absurd hi (by omega), fun i p _ hp => by simp at hp⟩ (fun q hq => by simp at hq) D _ (.inl rfl) (fun p hp => by simp at hp)).mono fun e w' ⟨he, hS, hB, hK⟩ => ⟨he, .inr ⟨g, cap, rfl, hS.nodes⟩, hB, hK⟩
theorem heldD_c (v : Value) (ps : List DRow) (k : Nat) (w : World) (h : MkD w v k ps) (hkn : kS k ps ≤ 4611686018427387904) (hln : ps.length ≤ 4611686018427387904) :
    Calls Try.prog 36 #[v, .int .i64 k] w fun e w' => e = .returned (.int .i64 (kS k ps : Nat)) ∧ Below w.heap.size w w' := by
  rcases h with ⟨rfl, rfl⟩ | ⟨g, cap, rfl, hM⟩
  · exact heldDNodeS_nil k w
  · exact heldDNodeS_c g 0 ps.length cap k ps rfl hkn hln w hM

set_option maxHeartbeats 1000000 in
theorem markData_c (A : Nat → Prop) (v : Value) (ps : List DRow) (k lo : Nat) (w : World) (O : OwnD A 44 lo w v ps) (D : DisjK ps) (K : KO lo w ps) (hlo : lo ≤ w.heap.size) (hkn : kS k ps ≤ 4611686018427387904) :
    Calls Try.prog 17 #[.agg #[v], .int .i64 k] w fun e w' => e = .returned (.int .i64 (kS k ps : Nat)) ∧ MkD w' v k ps ∧ Below lo w w' ∧ Kept (InD v ps) w w' := by
  obtain ⟨a, c, rfl⟩ := O.form
  obtain ⟨n, hn⟩ : ∃ n, n = ps.length := ⟨_, rfl⟩
  rw [← hn] at O ⊢
  have hc := fun (W : World) (hb : Below w.heap.size w W) => markD_c A _ ps k lo W (O.below hb) D (K.below hb) (Nat.le_trans hlo hb.size) hkn
  generalize hks : kS k ps = z at *
  clear O K D
  replace hn := Lib.hid hn; replace hks := Lib.hid hks; replace hc := Lib.hid hc
  go_enter Try.func17, Try.ntmps17
  go_wp2_with (go_at_call 35; refine (hc.out _ (by go_grown)).mono ?_; rintro e w2 ⟨rfl, hM, hb2, hK2⟩)
  go_returns
  exact ⟨rfl, hM, Below.trans (Below.mono (show Below w.heap.size w _ by go_grown) hlo) hb2, (Kept.below (show Below w.heap.size w _ by go_grown)).trans (by simp) hK2⟩
set_option maxHeartbeats 1000000 in
theorem heldData_c (v : Value) (ps : List DRow) (k : Nat) (w : World) (h : MkD w v k ps) (hv : ∃ a n c, v = .slice a n c) (hkn : kS k ps ≤ 4611686018427387904) (hln : ps.length ≤ 4611686018427387904) :
    Calls Try.prog 18 #[.agg #[v], .int .i64 k] w fun e w' => e = .returned (.int .i64 (kS k ps : Nat)) ∧ Below w.heap.size w w' := by
  obtain ⟨a, n, c, rfl⟩ := hv
  have hc := fun (W : World) (hb : Below w.heap.size w W) => heldD_c _ ps k W (h.below hb) hkn hln
  generalize hks : kS k ps = z at *
  clear h
  replace hks := Lib.hid hks; replace hc := Lib.hid hc
  go_enter Try.func18, Try.ntmps18
  go_wp2_with (go_at_call 36; refine (hc.out _ (by go_grown)).mono ?_; rintro e w2 ⟨rfl, hb2⟩)
  go_returns
  exact ⟨rfl, Below.trans (show Below w.heap.size w _ by go_grown) (hb2.mono (by simp))⟩
theorem MkD.form {w : World} {v : Value} {k : Nat} {ps : List DRow} (h : MkD w v k ps) : ∃ a n c, v = .slice a n c := by
  rcases h with ⟨rfl, rfl⟩ | ⟨g, cap, rfl, hM⟩ <;> exact ⟨_, _, _, rfl⟩

end Go.Proofs.Ytpblhonnknmjjaa

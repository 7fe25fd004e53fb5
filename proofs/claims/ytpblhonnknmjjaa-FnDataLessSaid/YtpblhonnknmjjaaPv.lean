/- Trees by value, and lists of nodes that the call owns: how they read. No program is walked here. -/
import Derived.Test.YtpblhonnknmjjaaTree
import Derived.Test.YtpblhonnknmjjaaFill
namespace Go.Proofs.Ytpblhonnknmjjaa
open Go.RowKit
set_option linter.unusedVariables false
set_option linter.unusedSimpArgs false

/-- The cells r are a tree of at most f levels; each block that they lead to is in S. -/
def PV : Nat → (Nat → Prop) → World → List Value → PxT → Prop
  | 0, _, _, _, _ => False
  | f + 1, S, w, r, t => ∃ a cap, r = [.int .i64 t.kind, .int .i64 t.n, .string t.s, .slice a t.kids.length cap] ∧ t.wf ∧ t.kids.length ≤ cap ∧ cap ≤ 9223372036854775807 ∧
      (0 < t.kids.length → ∃ g off, a = some ⟨g, off, none⟩ ∧ S g ∧ ∀ i k, t.kids[i]? = some k → ∃ q, RowAt w g (off + i * 4) q ∧ PV f S w q k)
theorem PV.len : ∀ {f : Nat} {S : Nat → Prop} {w : World} {r : List Value} {t : PxT}, PV f S w r t → r.length = 4
  | 0, _, _, _, _, h => absurd h (by simp [PV])
  | f + 1, _, _, _, _, ⟨_, _, h, _⟩ => by rw [h]; rfl
theorem PV.to : ∀ {f : Nat} {S S' : Nat → Prop} {w w' : World} {r : List Value} {t : PxT}, PV f S w r t → Same S w w' → (∀ b, S b → b < w.heap.size → S' b) → PV f S' w' r t
  | 0, _, _, _, _, _, _, h, _, _ => h
  | f + 1, S, S', w, w', r, t, ⟨a, cap, hv, hwf, h1, h2, h3⟩, hs, hi =>
    ⟨a, cap, hv, hwf, h1, h2, fun h0 =>
      let ⟨g, off, ha, hg, hk⟩ := h3 h0
      ⟨g, off, ha, by
        obtain ⟨k, hk0⟩ : ∃ k, t.kids[0]? = some k := ⟨_, List.getElem?_eq_getElem h0⟩
        obtain ⟨q, hq, hP⟩ := hk 0 k hk0
        have hl := hP.len
        exact hi g hg (World.block_lt_of_cell? w _ (hq 0 _ (List.getElem?_eq_getElem (by omega)))), fun i k hik =>
          let ⟨q, hq, hR⟩ := hk i k hik
          ⟨q, fun j c hc => hs.cell hg (hq j c hc), hR.to hs hi⟩⟩⟩
theorem PV.below {f : Nat} {S : Nat → Prop} {w w' : World} {r : List Value} {t : PxT} (h : PV f S w r t) (hb : Below w.heap.size w w') : PV f S w' r t := h.to (Same.below hb) fun _ h _ => h
theorem PV.kept {f : Nat} {S K : Nat → Prop} {w w' : World} {r : List Value} {t : PxT} (h : PV f S w r t) (hk : Kept K w w') (hS : ∀ b, S b → ¬ K b) : PV f S w' r t :=
  h.to (fun b h1 h2 => hk b h2 (hS b h1)) fun _ h _ => h
theorem PV.succ : ∀ {f : Nat} {S : Nat → Prop} {w : World} {r : List Value} {t : PxT}, PV f S w r t → PV (f + 1) S w r t
  | 0, _, _, _, _, h => absurd h (by simp [PV])
  | f + 1, S, w, r, t, ⟨a, cap, hv, hwf, h1, h2, h3⟩ => ⟨a, cap, hv, hwf, h1, h2, fun h0 =>
      let ⟨g, off, ha, hg, hk⟩ := h3 h0
      ⟨g, off, ha, hg, fun i k hik => let ⟨q, hq, hR⟩ := hk i k hik; ⟨q, hq, hR.succ⟩⟩⟩
theorem PV.mono {f g : Nat} {S : Nat → Prop} {w : World} {r : List Value} {t : PxT} (h : PV f S w r t) (hfg : f ≤ g) : PV g S w r t := by
  induction g with
  | zero => obtain rfl : f = 0 := by omega
            exact h
  | succ g ih =>
    by_cases e : f = g + 1
    · exact e ▸ h
    · exact (ih (by omega)).succ

/-! ### A list of nodes that the call owns -/
/-- A node, and where its children's list lies. -/
abbrev DRow := GDNode × Option Addr × Nat
def kidsV (p : DRow) : Value := .slice p.2.1 p.1.kids.length p.2.2
def drow (p : DRow) : List Value := [.int .i64 p.1.kind, .int .i64 p.1.n, .string p.1.s, kidsV p]
def dwf (p : DRow) : Prop := p.1.wf
def DRowR : Reading DRow := fun _ _ r p => r = drow p ∧ dwf p
theorem flatD : Flat DRowR 4 drow dwf := ⟨fun h => h, fun h _ _ => ⟨rfl, h⟩, fun _ => rfl, fun p u hu => by simp [drow] at hu; rcases hu with rfl | rfl | rfl | rfl <;> rfl, by decide⟩
/-- The children's lists of the nodes lie in blocks of which C holds. -/
def KidsIn (C : Nat → Prop) (lo : Nat) (w : World) (ps : List DRow) : Prop := ∀ p ∈ ps, Sl IntR 1 lo w (kidsV p) p.1.kids ∧ ∀ g, (kidsV p).ownBlock = some g → C g ∧ g < w.heap.size
theorem sl_kept {α : Type} {R : Reading α} {sz lo : Nat} {f : α → List Value} {wf : α → Prop} (F : Flat R sz f wf) {S : Nat → Prop} {w w' : World} {u : Value} {xs : List α} (h : Sl R sz lo w u xs) (hk : Kept S w w') (hS : ∀ g, u.ownBlock = some g → ¬ S g) : Sl R sz lo w' u xs := by
  have hwf := F.wfs h
  obtain ⟨a, c, rfl, h1, h2, h3⟩ := h
  refine ⟨a, c, rfl, h1, h2, fun h0 => ?_⟩
  obtain ⟨b, off, hl, hb, rfl, hr⟩ := F.cells h3 h0
  have hr' := hr.kept hk (hS b rfl)
  exact ⟨b, off, hl, rfl, fun i x hx => ⟨f x, F.back (hwf x (List.mem_of_getElem? hx)) _ _, fun j c hc => by rw [Nat.add_assoc]; exact hr' _ c (F.get hx hc)⟩⟩
theorem KidsIn.kept {C S : Nat → Prop} {lo : Nat} {w w' : World} {ps : List DRow} (h : KidsIn C lo w ps) (hk : Kept S w w') (hS : ∀ g, C g → ¬ S g) (hz : w.heap.size ≤ w'.heap.size) : KidsIn C lo w' ps := fun p hp =>
  let ⟨h1, h2⟩ := h p hp
  ⟨sl_kept flatInt h1 hk fun g hg => hS g (h2 g hg).1, fun g hg => ⟨(h2 g hg).1, Nat.lt_of_lt_of_le (h2 g hg).2 hz⟩⟩
theorem KidsIn.below {C : Nat → Prop} {lo : Nat} {w w' : World} {ps : List DRow} (h : KidsIn C lo w ps) (hb : Below w.heap.size w w') : KidsIn C lo w' ps := h.kept (S := fun _ => False) (Kept.below hb) (fun _ _ h => h) hb.size
theorem KidsIn.to {C C' : Nat → Prop} {lo : Nat} {w : World} {ps : List DRow} (h : KidsIn C lo w ps) (hC : ∀ g, g < w.heap.size → C g → C' g) : KidsIn C' lo w ps := fun p hp =>
  let ⟨h1, h2⟩ := h p hp
  ⟨h1, fun g hg => ⟨hC g (h2 g hg).2 (h2 g hg).1, (h2 g hg).2⟩⟩
theorem KidsIn.append {C : Nat → Prop} {lo : Nat} {w : World} {ps qs : List DRow} (h : KidsIn C lo w ps) (h' : KidsIn C lo w qs) : KidsIn C lo w (ps ++ qs) := fun p hp => by
  rcases List.mem_append.1 hp with h1 | h1
  · exact h p h1
  · exact h' p h1
theorem KidsIn.set {C : Nat → Prop} {lo : Nat} {w : World} {ps : List DRow} (h : KidsIn C lo w ps) {i : Nat} {q : DRow} (hq : Sl IntR 1 lo w (kidsV q) q.1.kids ∧ ∀ g, (kidsV q).ownBlock = some g → C g ∧ g < w.heap.size) : KidsIn C lo w (ps.set i q) := fun p hp => by
  rcases List.mem_or_eq_of_mem_set hp with h1 | rfl
  · exact h p h1
  · exact hq
/-- v holds these nodes; the call owns v's block, and the nodes' children lie in other blocks, outside A. -/
structure OwnD (A : Nat → Prop) (T : TypeId) (lo : Nat) (w : World) (v : Value) (ps : List DRow) : Prop where
  own : OwnF T 4 drow dwf lo w v ps
  kids : KidsIn (fun g => v.ownBlock ≠ some g ∧ ¬ A g) lo w ps
  out : ∀ g, v.ownBlock = some g → ¬ A g
theorem OwnD.nil (A : Nat → Prop) (T : TypeId) (lo : Nat) (w : World) : OwnD A T lo w (.slice none 0 0) [] := ⟨OwnF.empty, fun p hp => (by cases hp), fun g hg => (by cases hg)⟩
theorem OwnD.kept {A S : Nat → Prop} {T : TypeId} {lo : Nat} {w w' : World} {v : Value} {ps : List DRow} (h : OwnD A T lo w v ps) (hk : Kept S w w') (hS : ∀ g, g < w.heap.size → ¬ A g → ¬ S g) (hz : w.heap.size ≤ w'.heap.size) : OwnD A T lo w' v ps :=
  ⟨h.own.kept hk fun g hg => hS g (h.own.base g hg).2 (h.out g hg), fun p hp =>
    let ⟨h1, h2⟩ := h.kids p hp
    ⟨sl_kept flatInt h1 hk fun g hg => hS g (h2 g hg).2 (h2 g hg).1.2, fun g hg => ⟨(h2 g hg).1, Nat.lt_of_lt_of_le (h2 g hg).2 hz⟩⟩, h.out⟩
theorem OwnD.below {A : Nat → Prop} {T : TypeId} {lo : Nat} {w w' : World} {v : Value} {ps : List DRow} (h : OwnD A T lo w v ps) (hb : Below w.heap.size w w') : OwnD A T lo w' v ps :=
  h.kept (S := fun _ => False) (Kept.below hb) (fun _ _ _ h => h) hb.size
theorem OwnD.toA {A A' : Nat → Prop} {T : TypeId} {lo : Nat} {w : World} {v : Value} {ps : List DRow} (h : OwnD A T lo w v ps) (hA : ∀ g, g < w.heap.size → A' g → A g) : OwnD A' T lo w v ps :=
  ⟨h.own, h.kids.to fun g hg hc => ⟨hc.1, fun ha => hc.2 (hA g hg ha)⟩, fun g hg ha => h.out g hg (hA g (h.own.base g hg).2 ha)⟩
theorem OwnD.form {A : Nat → Prop} {T : TypeId} {lo : Nat} {w : World} {v : Value} {ps : List DRow} (h : OwnD A T lo w v ps) : ∃ a c, v = .slice a ps.length c := h.own.form
/-- As a value's nodes. -/
theorem OwnD.sl {A : Nat → Prop} {T : TypeId} {lo : Nat} {w : World} {v : Value} {ps : List DRow} (h : OwnD A T lo w v ps) : Sl GDNode.R 4 lo w v (ps.map (·.1)) := by
  obtain ⟨a, c, rfl, h1, h2, h3⟩ := h.own.sl flatD
  refine ⟨a, c, by rw [List.length_map], by rw [List.length_map]; exact h1, h2, fun h0 => ?_⟩
  rw [List.length_map] at h0
  obtain ⟨b, off, hl, ha, h4⟩ := h3 h0
  refine ⟨b, off, hl, ha, fun i x hx => ?_⟩
  rw [List.getElem?_map] at hx
  cases hp : ps[i]? with
  | none => rw [hp] at hx; cases hx
  | some p =>
    rw [hp] at hx
    obtain rfl : p.1 = x := Option.some.inj hx
    obtain ⟨r, ⟨hr1, hr2⟩, hr3⟩ := h4 i p hp
    exact ⟨r, ⟨kidsV p, hr1, hr2, (h.kids p (List.mem_of_getElem? hp)).1⟩, hr3⟩
end Go.Proofs.Ytpblhonnknmjjaa

/- Parts of the proof, merged: Pv, Lay, Fl. -/
import Derived.Deep.RegionHeld3
import Derived.Deep.RegionLaw
import Derived.Test.YtaimekaagmcmnaaGreatNe18
/- Trees by value, and lists of nodes that the call owns: how they read. No program is walked here. -/
namespace Go.Proofs.YtaimekaagmcmnaaGreat
open Go.RowKit
set_option linter.unusedVariables false
set_option linter.unusedSimpArgs false

def PV : Nat → (Nat → Prop) → World → List Value → PxT → Prop
  | 0, _, _, _, _ => False
  | f + 1, S, w, r, t => ∃ a cap, r = [.int .i64 t.kind, .int .i64 t.n, .string t.s, .slice a t.kids.length cap] ∧ t.wf ∧ t.kids.length ≤ cap ∧ cap ≤ 9223372036854775807 ∧
      (0 < t.kids.length → ∃ g off, a = some ⟨g, off, none⟩ ∧ S g ∧ ∀ i k, t.kids[i]? = some k → ∃ q, RowAt w g (off + i * 4) q ∧ PV f S w q k)
theorem PV.len : ∀ {f : Nat} {S : Nat → Prop} {w : World} {r : List Value} {t : PxT}, PV f S w r t → r.length = 4
  | 0, _, _, _, _, h => absurd h (by simp [PV])
  | f + 1, _, _, _, _, ⟨_, _, h, _⟩ => by rw [h]; rfl
theorem PV.to : ∀ {f : Nat} {S S' : Nat → Prop} {w w' : World} {r : List Value} {t : PxT}, PV f S w r t → Same S w w' → (∀ b, S b → b < w.heap.size → S' b) → PV f S' w' r t
  | 0, _, _, _, _, _, _, h, _, _ => h
  | f + 1, S, S', w, w', r, t, ⟨a, cap, hv, hwf, h1, h2, h3⟩, hs, hi =>
    ⟨a, cap, hv, hwf, h1, h2, fun h0 =>
      let ⟨g, off, ha, hg, hk⟩ := h3 h0
      ⟨g, off, ha, by
        obtain ⟨k, hk0⟩ : ∃ k, t.kids[0]? = some k := ⟨_, List.getElem?_eq_getElem h0⟩
        obtain ⟨q, hq, hP⟩ := hk 0 k hk0
        have hl := hP.len
        exact hi g hg (World.block_lt_of_cell? w _ (hq 0 _ (List.getElem?_eq_getElem (by omega)))), fun i k hik =>
          let ⟨q, hq, hR⟩ := hk i k hik
          ⟨q, fun j c hc => hs.cell hg (hq j c hc), hR.to hs hi⟩⟩⟩
theorem PV.below {f : Nat} {S : Nat → Prop} {w w' : World} {r : List Value} {t : PxT} (h : PV f S w r t) (hb : Below w.heap.size w w') : PV f S w' r t := h.to (Same.below hb) fun _ h _ => h
theorem PV.kept {f : Nat} {S K : Nat → Prop} {w w' : World} {r : List Value} {t : PxT} (h : PV f S w r t) (hk : Kept K w w') (hS : ∀ b, S b → ¬ K b) : PV f S w' r t :=
  h.to (fun b h1 h2 => hk b h2 (hS b h1)) fun _ h _ => h
theorem PV.succ : ∀ {f : Nat} {S : Nat → Prop} {w : World} {r : List Value} {t : PxT}, PV f S w r t → PV (f + 1) S w r t
  | 0, _, _, _, _, h => absurd h (by simp [PV])
  | f + 1, S, w, r, t, ⟨a, cap, hv, hwf, h1, h2, h3⟩ => ⟨a, cap, hv, hwf, h1, h2, fun h0 =>
      let ⟨g, off, ha, hg, hk⟩ := h3 h0
      ⟨g, off, ha, hg, fun i k hik => let ⟨q, hq, hR⟩ := hk i k hik; ⟨q, hq, hR.succ⟩⟩⟩
theorem PV.mono {f g : Nat} {S : Nat → Prop} {w : World} {r : List Value} {t : PxT} (h : PV f S w r t) (hfg : f ≤ g) : PV g S w r t := by
  induction g with
  | zero => obtain rfl : f = 0 := by omega
            exact h
  | succ g ih =>
    by_cases e : f = g + 1
    · exact e ▸ h
    · exact (ih (by omega)).succ

/-! ### A list of nodes that the call owns -/
abbrev DRow := GDNode × Option Addr × Nat
def kidsV (p : DRow) : Value := .slice p.2.1 p.1.kids.length p.2.2
def drow (p : DRow) : List Value := [.int .i64 p.1.kind, .int .i64 p.1.n, .string p.1.s, kidsV p]
def dwf (p : DRow) : Prop := p.1.wf
def DRowR : Reading DRow := fun _ _ r p => r = drow p ∧ dwf p
theorem flatD : Flat DRowR 4 drow dwf := ⟨fun h => h, fun h _ _ => ⟨rfl, h⟩, fun _ => rfl, fun p u hu => by simp [drow] at hu; rcases hu with rfl | rfl | rfl | rfl <;> rfl, by decide⟩
def KidsIn (C : Nat → Prop) (lo : Nat) (w : World) (ps : List DRow) : Prop := ∀ p ∈ ps, Sl IntR 1 lo w (kidsV p) p.1.kids ∧ ∀ g, (kidsV p).ownBlock = some g → C g ∧ g < w.heap.size
theorem sl_kept {α : Type} {R : Reading α} {sz lo : Nat} {f : α → List Value} {wf : α → Prop} (F : Flat R sz f wf) {S : Nat → Prop} {w w' : World} {u : Value} {xs : List α} (h : Sl R sz lo w u xs) (hk : Kept S w w') (hS : ∀ g, u.ownBlock = some g → ¬ S g) : Sl R sz lo w' u xs := by
  have hwf := F.wfs h
  obtain ⟨a, c, rfl, h1, h2, h3⟩ := h
  refine ⟨a, c, rfl, h1, h2, fun h0 => ?_⟩
  obtain ⟨b, off, hl, hb, rfl, hr⟩ := F.cells h3 h0
  have hr' := hr.kept hk (hS b rfl)
  exact ⟨b, off, hl, rfl, fun i x hx => ⟨f x, F.back (hwf x (List.mem_of_getElem? hx)) _ _, fun j c hc => by rw [Nat.add_assoc]; exact hr' _ c (F.get hx hc)⟩⟩
theorem KidsIn.kept {C S : Nat → Prop} {lo : Nat} {w w' : World} {ps : List DRow} (h : KidsIn C lo w ps) (hk : Kept S w w') (hS : ∀ g, C g → ¬ S g) (hz : w.heap.size ≤ w'.heap.size) : KidsIn C lo w' ps := fun p hp =>
  let ⟨h1, h2⟩ := h p hp
  ⟨sl_kept flatInt h1 hk fun g hg => hS g (h2 g hg).1, fun g hg => ⟨(h2 g hg).1, Nat.lt_of_lt_of_le (h2 g hg).2 hz⟩⟩
theorem KidsIn.below {C : Nat → Prop} {lo : Nat} {w w' : World} {ps : List DRow} (h : KidsIn C lo w ps) (hb : Below w.heap.size w w') : KidsIn C lo w' ps := h.kept (S := fun _ => False) (Kept.below hb) (fun _ _ h => h) hb.size
theorem KidsIn.to {C C' : Nat → Prop} {lo : Nat} {w : World} {ps : List DRow} (h : KidsIn C lo w ps) (hC : ∀ g, g < w.heap.size → C g → C' g) : KidsIn C' lo w ps := fun p hp =>
  let ⟨h1, h2⟩ := h p hp
  ⟨h1, fun g hg => ⟨hC g (h2 g hg).2 (h2 g hg).1, (h2 g hg).2⟩⟩
theorem KidsIn.append {C : Nat → Prop} {lo : Nat} {w : World} {ps qs : List DRow} (h : KidsIn C lo w ps) (h' : KidsIn C lo w qs) : KidsIn C lo w (ps ++ qs) := fun p hp => by
  rcases List.mem_append.1 hp with h1 | h1
  · exact h p h1
  · exact h' p h1
theorem KidsIn.set {C : Nat → Prop} {lo : Nat} {w : World} {ps : List DRow} (h : KidsIn C lo w ps) {i : Nat} {q : DRow} (hq : Sl IntR 1 lo w (kidsV q) q.1.kids ∧ ∀ g, (kidsV q).ownBlock = some g → C g ∧ g < w.heap.size) : KidsIn C lo w (ps.set i q) := fun p hp => by
  rcases List.mem_or_eq_of_mem_set hp with h1 | rfl
  · exact h p h1
  · exact hq
structure OwnD (A : Nat → Prop) (T : TypeId) (lo : Nat) (w : World) (v : Value) (ps : List DRow) : Prop where
  own : OwnF T 4 drow dwf lo w v ps
  kids : KidsIn (fun g => v.ownBlock ≠ some g ∧ ¬ A g) lo w ps
  out : ∀ g, v.ownBlock = some g → ¬ A g
theorem OwnD.nil (A : Nat → Prop) (T : TypeId) (lo : Nat) (w : World) : OwnD A T lo w (.slice none 0 0) [] := ⟨OwnF.empty, fun p hp => (by cases hp), fun g hg => (by cases hg)⟩
theorem OwnD.kept {A S : Nat → Prop} {T : TypeId} {lo : Nat} {w w' : World} {v : Value} {ps : List DRow} (h : OwnD A T lo w v ps) (hk : Kept S w w') (hS : ∀ g, g < w.heap.size → ¬ A g → ¬ S g) (hz : w.heap.size ≤ w'.heap.size) : OwnD A T lo w' v ps :=
  ⟨h.own.kept hk fun g hg => hS g (h.own.base g hg).2 (h.out g hg), fun p hp =>
    let ⟨h1, h2⟩ := h.kids p hp
    ⟨sl_kept flatInt h1 hk fun g hg => hS g (h2 g hg).2 (h2 g hg).1.2, fun g hg => ⟨(h2 g hg).1, Nat.lt_of_lt_of_le (h2 g hg).2 hz⟩⟩, h.out⟩
theorem OwnD.below {A : Nat → Prop} {T : TypeId} {lo : Nat} {w w' : World} {v : Value} {ps : List DRow} (h : OwnD A T lo w v ps) (hb : Below w.heap.size w w') : OwnD A T lo w' v ps :=
  h.kept (S := fun _ => False) (Kept.below hb) (fun _ _ _ h => h) hb.size
theorem OwnD.toA {A A' : Nat → Prop} {T : TypeId} {lo : Nat} {w : World} {v : Value} {ps : List DRow} (h : OwnD A T lo w v ps) (hA : ∀ g, g < w.heap.size → A' g → A g) : OwnD A' T lo w v ps :=
  ⟨h.own, h.kids.to fun g hg hc => ⟨hc.1, fun ha => hc.2 (hA g hg ha)⟩, fun g hg ha => h.out g hg (hA g (h.own.base g hg).2 ha)⟩
theorem OwnD.form {A : Nat → Prop} {T : TypeId} {lo : Nat} {w : World} {v : Value} {ps : List DRow} (h : OwnD A T lo w v ps) : ∃ a c, v = .slice a ps.length c := h.own.form
theorem OwnD.sl {A : Nat → Prop} {T : TypeId} {lo : Nat} {w : World} {v : Value} {ps : List DRow} (h : OwnD A T lo w v ps) : Sl GDNode.R 4 lo w v (ps.map (·.1)) := by
  obtain ⟨a, c, rfl, h1, h2, h3⟩ := h.own.sl flatD
  refine ⟨a, c, by rw [List.length_map], by rw [List.length_map]; exact h1, h2, fun h0 => ?_⟩
  rw [List.length_map] at h0
  obtain ⟨b, off, hl, ha, h4⟩ := h3 h0
  refine ⟨b, off, hl, ha, fun i x hx => ?_⟩
  rw [List.getElem?_map] at hx
  cases hp : ps[i]? with
  | none => rw [hp] at hx; cases hx
  | some p =>
    rw [hp] at hx
    obtain rfl : p.1 = x := Option.some.inj hx
    obtain ⟨r, ⟨hr1, hr2⟩, hr3⟩ := h4 i p hp
    exact ⟨r, ⟨kidsV p, hr1, hr2, (h.kids p (List.mem_of_getElem? hp)).1⟩, hr3⟩
end Go.Proofs.YtaimekaagmcmnaaGreat

/- The reference's l07Lay: a tree laid into a list of nodes. -/
namespace Go.Proofs.YtaimekaagmcmnaaGreat
open Go.RowKit
set_option linter.unusedVariables false
set_option linter.unusedSimpArgs false
attribute [local go_sem] Ext.cell

def layK (L : Nat → PxT → List GDNode) : Nat → List PxT → List Int × List GDNode
  | _, [] => ([], [])
  | nx, k :: ks => ((nx : Int) :: (layK L (nx + (L nx k).length) ks).1, L nx k ++ (layK L (nx + (L nx k).length) ks).2)
def layT : Nat → Nat → PxT → List GDNode
  | 0, _, _ => []
  | f + 1, at_, t => ⟨t.kind, t.n, t.s, (layK (layT f) (at_ + 1) t.kids).1⟩ :: (layK (layT f) (at_ + 1) t.kids).2
theorem layK_snoc (L : Nat → PxT → List GDNode) : ∀ (ks : List PxT) (nx : Nat) (k : PxT), layK L nx (ks ++ [k]) =
    ((layK L nx ks).1 ++ [((nx + (layK L nx ks).2.length : Nat) : Int)], (layK L nx ks).2 ++ L (nx + (layK L nx ks).2.length) k)
  | [], nx, k => by simp [layK]
  | c :: ks, nx, k => by
    have ih := layK_snoc L ks (nx + (L nx c).length) k
    simp only [List.cons_append, layK, ih, List.length_append, Nat.add_assoc, List.append_assoc]
theorem layK_len (L : Nat → PxT → List GDNode) : ∀ (ks : List PxT) (nx : Nat), (layK L nx ks).1.length = ks.length
  | [], nx => rfl
  | c :: ks, nx => by simp [layK, layK_len L ks]
def szT : Nat → PxT → Nat
  | 0, _ => 0
  | f + 1, t => 1 + t.kids.length + (t.kids.map (szT f)).sum
theorem sum_take_nat {α : Type} (f : α → Nat) (l : List α) (k : Nat) : ((l.take k).map f).sum ≤ (l.map f).sum := by
  conv => rhs; rw [← List.take_append_drop k l]
  rw [List.map_append, List.sum_append]
  omega
theorem layK_le {L : Nat → PxT → List GDNode} {z : PxT → Nat} (h : ∀ nx k, (L nx k).length ≤ z k) : ∀ (ks : List PxT) (nx : Nat), (layK L nx ks).2.length ≤ (ks.map z).sum
  | [], nx => by simp [layK]
  | c :: ks, nx => by
    have h1 := layK_le h ks (nx + (L nx c).length)
    have h2 := h nx c
    simp [layK]
    omega
theorem layT_le : ∀ (f at_ : Nat) (t : PxT), (layT f at_ t).length ≤ szT f t
  | 0, at_, t => by simp [layT]
  | f + 1, at_, t => by
    have := layK_le (L := layT f) (z := szT f) (fun nx k => layT_le f nx k) t.kids (at_ + 1)
    simp only [layT, szT, List.length_cons]
    omega

theorem OwnD.push {A : Nat → Prop} {T : TypeId} {lo : Nat} {w w1 w2 : World} {v : Value} {ps : List DRow} {p : DRow} {g n cap : Nat} (h : OwnD A T lo w v ps) (hb : Below w.heap.size w w1) (hg : w1.grownBy w2 v.ownBlock)
    (hown : w2.ownsRow lo T 4 (.slice (some ⟨g, 0, none⟩) n cap) n (rowsOf drow ps ++ drow p)) (hn : n = ps.length + 1) (hat : v.ownBlock = some g ∨ g = w1.heap.size) (hp : dwf p) (hk : p.1.kids = []) (hk2 : p.2.1 = none) (hk3 : p.2.2 = 0) (hA : ∀ q, A q → q < w1.heap.size) :
    OwnD A T lo w2 (.slice (some ⟨g, 0, none⟩) n cap) (ps ++ [p]) := by
  have hs := hb.size
  have hK : Kept (fun k => some k = v.ownBlock) w w2 := kept_of hg hb
  refine ⟨⟨?_, fun x hx => ?_⟩, fun q hq => ?_, fun q hq ha => ?_⟩
  · rw [List.length_append, rowsOf_append, rowsOf_one]
    subst hn
    exact hown
  · rcases List.mem_append.1 hx with h1 | h1
    · exact h.own.2 x h1
    · simp at h1; subst h1; exact hp
  · rcases List.mem_append.1 hq with h1 | h1
    · obtain ⟨h2, h3⟩ := h.kids q h1
      refine ⟨sl_kept flatInt h2 hK fun b hb' e => (h3 b hb').1.1 e.symm, fun b hb' => ⟨⟨fun e => ?_, (h3 b hb').1.2⟩, Nat.lt_of_lt_of_le (h3 b hb').2 (Nat.le_trans hs hg.size)⟩⟩
      obtain rfl : g = b := by simpa [Value.ownBlock] using e
      rcases hat with h4 | h4
      · exact (h3 g hb').1.1 h4
      · have := (h3 g hb').2; omega
    · simp at h1
      subst h1
      have e : kidsV q = .slice none 0 0 := by unfold kidsV; rw [hk, hk2, hk3]; rfl
      rw [e, hk]
      exact ⟨Sl.nil, fun b hb' => by cases hb'⟩
  · obtain rfl : g = q := by simpa [Value.ownBlock] using hq
    rcases hat with h4 | h4
    · exact h.out g h4 ha
    · have := hA g ha; omega

theorem PV.form {f : Nat} {S : Nat → Prop} {w : World} {r : List Value} {t : PxT} (h : PV f S w r t) : ∃ a cap, r = [.int .i64 t.kind, .int .i64 t.n, .string t.s, .slice a t.kids.length cap] := by
  cases f with
  | zero => exact absurd h (by simp [PV])
  | succ f => obtain ⟨a, c, h, _⟩ := h; exact ⟨a, c, h⟩
theorem info_intL : (Tryz.prog.info? 3).map (fun i => (i.zero, i.size, i.bytes)) = some (some (.int .i64 0), 1, 8) := by kernel_rfl

end Go.Proofs.YtaimekaagmcmnaaGreat

/- The program's flatPat: a tree behind pointers laid into a list of nodes. -/
namespace Go.Proofs.YtaimekaagmcmnaaGreat
open Go.RowKit
set_option linter.unusedVariables false
set_option linter.unusedSimpArgs false
attribute [local go_sem] Ext.cell

def DisjK (ps : List DRow) : Prop := ps.Pairwise fun p q => ∀ b, (kidsV p).ownBlock = some b → (kidsV q).ownBlock ≠ some b
def KO (lo : Nat) (w : World) (ps : List DRow) : Prop := ∀ p ∈ ps, OwnF 3 1 intRow I64 lo w (kidsV p) p.1.kids
theorem KO.kept {A S : Nat → Prop} {T : TypeId} {lo : Nat} {w w' : World} {v : Value} {ps : List DRow} (h : KO lo w ps) (O : OwnD A T lo w v ps) (hk : Kept S w w') (hS : ∀ g, g < w.heap.size → ¬ A g → v.ownBlock ≠ some g → ¬ S g) : KO lo w' ps := fun p hp =>
  (h p hp).kept hk fun g hg => let ⟨⟨h1, h2⟩, h3⟩ := (O.kids p hp).2 g hg; hS g h3 h2 h1
theorem KO.below {lo : Nat} {w w' : World} {ps : List DRow} (h : KO lo w ps) (hb : Below w.heap.size w w') : KO lo w' ps := fun p hp => (h p hp).below hb
def FlPost (A : Nat → Prop) (lo : Nat) (w : World) (ps : List DRow) (l : List GDNode) (e : Ending) (w' : World) : Prop :=
  ∃ v' ps', e = .returned (.tuple #[v', .int .i64 (ps.length : Int)]) ∧ OwnD A 111 lo w' v' ps' ∧ DisjK ps' ∧ KO lo w' ps' ∧ ps'.map (·.1) = ps.map (·.1) ++ l ∧ Below lo w w' ∧ Kept (fun q => ¬ A q) w w'
theorem info_PNode : (Tryz.prog.info? 111).map (fun i => (i.zero, i.size, i.bytes)) = some (some (.agg #[.int .i64 0, .int .i64 0, .string ⟨#[]⟩, .slice none 0 0]), 4, 56) := by kernel_rfl

theorem rows_len : ∀ l : List DRow, (rowsOf drow l).length = l.length * 4
  | [] => rfl
  | x :: l => by
    have h := rows_len l
    show (drow x ++ rowsOf drow l).length = _
    rw [List.length_append, h]
    show 4 + l.length * 4 = (l.length + 1) * 4
    omega
theorem rows_kid (l1 l2 : List DRow) (x y : DRow) (h1 : x.1.kind = y.1.kind) (h2 : x.1.n = y.1.n) (h3 : x.1.s = y.1.s) :
    (rowsOf drow (l1 ++ x :: l2)).take (l1.length * 4 + 3) ++ [kidsV y] ++ (rowsOf drow (l1 ++ x :: l2)).drop (l1.length * 4 + 3 + 1) = rowsOf drow (l1 ++ y :: l2) := by
  have e : ∀ z : DRow, rowsOf drow (l1 ++ z :: l2) = rowsOf drow l1 ++ ([.int .i64 z.1.kind, .int .i64 z.1.n, .string z.1.s] ++ (kidsV z :: rowsOf drow l2)) := fun z => by
    rw [rowsOf_append]; rfl
  rw [e, e, ← h1, ← h2, ← h3, ← rows_len l1, List.take_length_add_append, Nat.add_assoc, List.drop_length_add_append]
  simp

set_option maxRecDepth 100000 in
set_option maxHeartbeats 8000000 in
theorem flatPat_c : ∀ (f : Nat) (t : PxT) (A : Nat → Prop) (v pv : Value) (ps : List DRow) (lo : Nat) (w : World), PxR f A w pv t → OwnD A 111 lo w v ps → DisjK ps → KO lo w ps → lo ≤ w.heap.size → (∀ q, A q → q < w.heap.size) → ps.length + szT f t ≤ 16777216 →
    Calls Tryz.prog 165 #[v, pv] w (FlPost A lo w ps (layT f ps.length t))
  | 0, t, A, v, pv, ps, lo, w, h, _, _, _, _, _, _ => absurd h (by simp [PxR])
  | f + 1, t, A, v, pv, ps, lo, w, h, hO, hD, hKO, hlo, hA, hsz => by
    have ih := flatPat_c f
    obtain ⟨b, ka, kc, rfl, hAb, hwf, hr, kl, km, hk⟩ := h
    obtain ⟨kd, nn, s, ks⟩ := t
    simp only [PxT.kind, PxT.n, PxT.s, PxT.kids] at *
    have hlay : layT (f + 1) ps.length (.mk kd nn s ks) = ⟨kd, nn, s, (layK (layT f) (ps.length + 1) ks).1⟩ :: (layK (layT f) (ps.length + 1) ks).2 := rfl
    have hszT : szT (f + 1) (.mk kd nn s ks) = 1 + ks.length + (ks.map (szT f)).sum := rfl
    rw [hszT] at hsz
    obtain ⟨m, hm⟩ : ∃ m, m = ks.length := ⟨_, rfl⟩
    rw [← hm] at kl hk hsz hr
    obtain ⟨va, vc, rfl⟩ := hO.form
    have hown0 := hO.own.1
    have hob := hO.own.base
    have hpost : ∀ n, n = ps.length → ∀ e W, (∃ v' ps', e = .returned (.tuple #[v', .int .i64 (n : Int)]) ∧ OwnD A 111 lo W v' ps' ∧ DisjK ps' ∧ KO lo W ps' ∧ ps'.map (·.1) = ps.map (·.1) ++ layT (f + 1) n (.mk kd nn s ks) ∧ Below lo w W ∧ Kept (fun q => ¬ A q) w W) → FlPost A lo w ps (layT (f + 1) ps.length (.mk kd nn s ks)) e W := fun n e => by subst e; exact fun e W h => h
    generalize hP : FlPost A lo w ps (layT (f + 1) ps.length (.mk kd nn s ks)) = P at *
    clear hP
    obtain ⟨n, hn⟩ : ∃ n, n = ps.length := ⟨_, rfl⟩
    rw [← hn] at hown0 hob hO hsz hlay ⊢
    replace hpost := hpost n hn
    obtain ⟨r_0, r_1, r_2, r_3⟩ := hr.box4
    have hbl := World.block_lt_of_cell? _ _ r_0; dsimp only at hbl
    replace hm := Lib.hid hm; replace hn := Lib.hid hn; replace hlay := Lib.hid hlay; replace hszT := Lib.hid hszT; replace ih := Lib.hid ih; replace hk := Lib.hid hk
    replace hown0 := Lib.hid hown0; replace hO := Lib.hid hO; replace hob := Lib.hid hob; replace hA := Lib.hid hA; replace hD := Lib.hid hD; replace hKO := Lib.hid hKO; replace hpost := Lib.hid hpost
    obtain ⟨iD, hi0, hz0, hz1, hz2⟩ := info_parts info_PNode; have ID := Lib.hid hi0; have ID0 := Lib.hid hz0; have ID1 := Lib.hid hz1; have ID2 := Lib.hid hz2; clear hi0 hz0 hz1 hz2
    obtain ⟨iJ, hi0, hz0, hz1, hz2⟩ := info_parts info_intL; have IJ := Lib.hid hi0; have IJ0 := Lib.hid hz0; have IJ1 := Lib.hid hz1; have IJ2 := Lib.hid hz2; clear hi0 hz0 hz1 hz2
    go_enter Tryz.func165, Tryz.ntmps165
    go_upto_region 2 with fail
    go_region_law ((refine step_append_lies _ (by rfl) _ _ _ (by rfl) (lo) 111 iD _ 4 56 Tryz.underlying81 ID.out ID0.out ID1.out ID2.out rfl (by omega) _ (n) (rowsOf drow ps) (by rfl) (own_below hown0.out (by go_grown)) ⟨w.heap.size, 0, none⟩ 1 1 [.int .i64 kd, .int .i64 nn, .string s, .slice none 0 0] (by rfl) (by rfl) (World.news_of_block (cs := #[.int .i64 kd, .int .i64 nn, .string s, .slice none 0 0]) (t := 111) (fr := (0, 0)) (heap_alloc_new' _ _ _ (by simp))) (by intro u hu; simp at hu; (first | (subst hu; rfl) | (rcases hu with rfl | rfl | rfl | rfl <;> rfl) | (rcases hu with rfl | rfl | rfl | rfl | rfl | rfl <;> rfl) | (rcases hu with rfl | rfl | rfl | rfl | rfl | rfl | rfl <;> rfl))) (by omega) (by unfold maxLen; omega) (by omega) (by simp; omega) _ rfl ?_; intro g cap w2 hown hgrow hat hlt2))
    all_goals (rename_i K; revert hlt2 hat hgrow hown w2 cap g K; refine ?H)
    intro K g cap w2 hown hgrow hat hlt2
    have hp1 := OwnD.push hO.out (w1 := (w.alloc (.cells #[.int .i64 kd, .int .i64 nn, .string s, .slice none 0 0] 111)).drew) (by go_grown) hgrow hown (by rw [hn.out]) hat (p := (⟨kd, nn, s, []⟩, none, 0)) hwf rfl rfl rfl (fun q ha => by have := hA.out q ha; simp; omega)
    have hgA : ¬ A g := by
      rcases hat with h | h
      · exact hO.out.out g h
      · exact fun ha => by have := hA.out g ha; simp at h; omega
    have hB2 : Below lo w w2 := below_grown2 (wr := w) hgrow (by go_grown) (Below.refl lo w) hlo hown0.out
    have K2 : Kept (fun q => ¬ A q) w w2 := fun k hk1 hk2 => by
      have h := kept_of hgrow (w := w) (by go_grown) k hk1
      exact h fun e => hk2 fun ha => hO.out.out k e.symm ha
    have hz2 : w.heap.size + 1 ≤ w2.heap.size := by have := hgrow.size; simpa using this
    have hD1 : DisjK (ps ++ [(⟨kd, nn, s, []⟩, none, 0)]) := List.pairwise_append.2 ⟨hD.out, List.pairwise_singleton _ _, fun p _ q hq b _ h => by rw [List.mem_singleton] at hq; subst hq; cases h⟩
    have hKO1 : KO lo w2 (ps ++ [(⟨kd, nn, s, []⟩, none, 0)]) := fun p hp => by
      rcases List.mem_append.1 hp with h | h
      · exact (hKO.out.kept hO.out (kept_of hgrow (w := w) (by go_grown)) (fun g _ _ h1 h2 => h1 h2.symm)) p h
      · rw [List.mem_singleton] at h; subst h; exact OwnF.empty
    clear hgrow hown hat hlt2
    have hr2 := hr.kept K2 (fun h => h hAb)
    clear r_0 r_1 r_2 r_3
    obtain ⟨r_0, r_1, r_2, r_3⟩ := hr2.box4
    have hbl2 := World.block_lt_of_cell? _ _ r_0; dsimp only at hbl2
    replace K2 := Lib.hid K2; replace hp1 := Lib.hid hp1; replace hD1 := Lib.hid hD1; replace hKO1 := Lib.hid hKO1
    go_upto_region 4 with fail
    obtain ⟨w3, hW3⟩ : ∃ W, W = w2.alloc (.cells #[] 3) := ⟨_, rfl⟩
    rw [← hW3]
    have hb3 : Below w2.heap.size w2 w3 := by rw [hW3]; go_grown
    have hz3 : w2.heap.size < w3.heap.size := by rw [hW3]; simp
    have OK3 : OwnF 3 1 intRow I64 w.heap.size w3 (.slice (some ⟨w2.heap.size, 0, none⟩) 0 0) [] := ⟨⟨rfl, .inr ⟨w2.heap.size, 0, #[], rfl, by omega, by rw [hW3]; exact heap_alloc_new' _ _ _ (by simp), Nat.le_refl _, by unfold maxLen; omega, rfl, rfl⟩⟩, fun x h => by cases h⟩
    have hO3 : OwnD (fun q => A q ∨ q = w2.heap.size) 111 lo w3 (.slice (some ⟨g, 0, none⟩) (n + 1) cap) (ps ++ [(⟨kd, nn, s, []⟩, none, 0)]) :=
      OwnD.below (hp1.out.toA fun q hq ha => by rcases ha with ha | ha; exact ha; omega) hb3
    have hB3 : Below lo w w3 := hB2.trans (hb3.mono (by omega))
    have K3 : Kept (fun q => ¬ A q) w w3 := K2.out.trans (by omega) (Kept.below hb3)
    have hr3 := hr2.below hb3
    have KO3 : Hid (KO lo w3 (ps ++ [(⟨kd, nn, s, []⟩, none, 0)])) := hKO1.out.below hb3
    clear hp1 K2 hB2 r_0 r_1 r_2 r_3 hr2 hW3 hb3 hbl2
    obtain ⟨r_0, r_1, r_2, r_3⟩ := hr3.box4
    obtain ⟨bK, hbK⟩ : ∃ x, x = w2.heap.size := ⟨_, rfl⟩
    rw [← hbK] at OK3 hO3 hz3 ⊢
    replace hbK := Lib.hid hbK
    replace hO3 := Lib.hid hO3; replace K3 := Lib.hid K3; replace OK3 := Lib.hid OK3; replace hB3 := Lib.hid hB3
    go_wp2_with fail
    go_loopw [0, 7, 36] (fun vv kk ii wr => ∃ (j : Nat) (v kv : Value) (qs : List DRow), j ≤ m ∧ vv = v ∧ kk = kv ∧ ii = .int .i64 j ∧ Hid (OwnD (fun q => A q ∨ kv.ownBlock = some q) 111 lo wr v qs) ∧ Hid (DisjK qs) ∧ Hid (KO lo wr qs) ∧
        Hid (qs.map (·.1) = ps.map (·.1) ++ ⟨kd, nn, s, []⟩ :: (layK (layT f) (n + 1) (ks.take j)).2) ∧
        Hid (OwnF 3 1 intRow I64 w.heap.size wr kv (layK (layT f) (n + 1) (ks.take j)).1) ∧ Hid (Below lo w wr) ∧ Hid (Kept (fun q => ¬ A q) w wr)) (fun _ _ ii _ => m - (intOf ii).toNat)
    case atStart => exact ⟨0, _, _, _, by omega, rfl, rfl, rfl, OwnD.toA hO3.out (fun q hq ha => by rcases ha with ha | ha; exact .inl ha; (refine .inr ?_; simpa [Value.ownBlock, eq_comm] using ha)), hD1, KO3, by show _ = _; simp [layK], OK3, hB3, K3⟩
    case round =>
      clear hO3 hB3 K3 OK3 hr3 r_0 r_1 r_2 r_3 hz3
      obtain ⟨j, v, kv, qs, hj, rfl, rfl, rfl, O, D, KQ, hqs, OK, hB, K⟩ := hrel
      obtain ⟨va', vc', rfl⟩ := O.out.form
      obtain ⟨ba, bc, rfl⟩ := OK.out.form
      have hlk : (layK (layT f) (n + 1) (ks.take j)).1.length = j := by rw [layK_len, List.length_take]; have := hm.out; omega
      have hql : qs.length = n + 1 + (layK (layT f) (n + 1) (ks.take j)).2.length := by
        have h := congrArg List.length hqs.out
        simp at h
        have := hn.out
        omega
      have hle : (layK (layT f) (n + 1) (ks.take j)).2.length ≤ (ks.map (szT f)).sum := Nat.le_trans (layK_le (z := szT f) (fun nx k => layT_le f nx k) _ _) (sum_take_nat _ _ _)
      rw [hlk] at OK O ⊢
      by_cases hjm : j < m
      · obtain ⟨g1, o1, rfl, hA1, hkk⟩ := hk.out (by omega)
        obtain ⟨k, hkj⟩ : ∃ k, ks[j]? = some k := ⟨_, List.getElem?_eq_getElem (by have := hm.out; omega)⟩
        obtain ⟨q, hq, hP⟩ := hkk j k hkj
        have hst := layK_snoc (layT f) (ks.take j) (n + 1) k
        rw [← take_snoc' hkj] at hst
        have hsz1 : (layK (layT f) (n + 1) (ks.take j)).2.length + szT f k ≤ (ks.map (szT f)).sum := by
          have h1 := sum_take_nat (szT f) ks (j + 1)
          rw [take_snoc' hkj, List.map_append, List.sum_append] at h1
          have h2 := layK_le (L := layT f) (z := szT f) (fun nx k => layT_le f nx k) (ks.take j) (n + 1)
          have h3 : ([k].map (szT f)).sum = szT f k := by simp
          omega
        have e_0 : wr.cell? ⟨g1, o1 + j, none⟩ = some q := by rw [World.cell?_of_block (w := w) (a := ⟨g1, o1 + j, none⟩) (K.out g1 (World.block_lt_of_cell? _ _ hq) (fun h => h hA1))]; exact hq
        have hP' := hP.to (S' := fun x => A x ∨ (Value.slice ba j bc).ownBlock = some x) (fun x h1 h2 => K.out x h2 fun h => h h1) (fun x h _ => .inl h)
        obtain ⟨qb, rfl⟩ := hP.form
        have hobK := OK.out.base
        have hltA : ∀ x, (A x ∨ (Value.slice ba j bc).ownBlock = some x) → x < wr.heap.size := fun x hx => by
          rcases hx with hx | hx
          · have := hA.out x hx; have := hB.out.size; omega
          · exact (hobK x hx).2
        have hc := ih.out k _ _ _ _ _ wr hP' O.out D.out KQ.out (by have := hB.out.size; omega) hltA (by omega)
        replace hc := Lib.hid hc; replace hst := Lib.hid hst; replace hobK := Lib.hid hobK; replace hltA := Lib.hid hltA; replace hkj := Lib.hid hkj; replace hlk := Lib.hid hlk
        clear hkk hP hP'
        generalize hnl : qs.length = nl at *
        have hnl2 : nl ≤ 16777216 := by omega
        replace hnl := Lib.hid hnl; replace hql := Lib.hid hql
        go_upto_region 8 with (go_at_call 165; (with_reducible refine (hc.out).mono ?_); rintro e w7 ⟨v7, qs7, he, O7, D7, KO7, hqs7, hB7, K7⟩; rw [hnl.out] at he; subst he)
        have hz7 := hB7.size
        have OK7 := OK.out.kept K7 (fun x hx h => h (.inr hx))
        have hownK : w7.ownsRow w.heap.size 3 1 (.slice ba j bc) j (rowsOf intRow (layK (layT f) (n + 1) (ks.take j)).1) := by have h := OK7.1; rw [hlk.out] at h; exact h
        have hobK7 := own_base hownK
        have K70 : Kept (fun q => ¬ A q) w w7 := K.out.trans hB.out.size fun x h1 h2 => K7 x h1 fun h3 => h2 fun ha => h3 (.inl ha)
        have hB70 : Below lo w w7 := hB.out.trans hB7
        have hO7 : Hid (qs7.map (·.1) = ps.map (·.1) ++ ⟨kd, nn, s, []⟩ :: (layK (layT f) (n + 1) (ks.take (j + 1))).2) := by
          show _ = _
          rw [hqs7, hqs.out, hst.out, hql.out]
          simp
        have hn64 : I64 ((nl : Nat) : Int) := by constructor <;> omega
        have hOK2 := OK.out.2
        replace hownK := Lib.hid hownK; replace O7 := Lib.hid O7; replace D7 := Lib.hid D7; replace KO7 := Lib.hid KO7; replace K70 := Lib.hid K70; replace hB70 := Lib.hid hB70; replace hobK7 := Lib.hid hobK7; replace hn64 := Lib.hid hn64; replace hOK2 := Lib.hid hOK2
        clear hqs7 hB7 K7 OK7 O D KQ OK hB K hc e_0 hqs
        have hw7 : w.heap.size ≤ w7.heap.size := hB70.out.size
        clear hz7
        go_upto_region 10 with (at_builtin; refine wpList_append_lies _ rfl _ _ _ rfl (w.heap.size) 3 iJ _ 1 8 Tryz.underlying59 IJ.out IJ0.out IJ1.out IJ2.out rfl (by omega) (.slice ba j bc) (j) (rowsOf intRow (layK (layT f) (n + 1) (ks.take j)).1) rfl (own_below hownK.out (by go_grown)) ⟨w7.heap.size, 0, none⟩ 1 1 [.int .i64 (nl : Int)] rfl rfl (World.news_of_block (cs := #[.int .i64 (nl : Int)]) (t := 3) (fr := (0, 0)) (heap_alloc_new' _ _ _ (by simp))) (by intro u hu; simp at hu; (first | (subst hu; rfl) | (rcases hu with rfl | rfl | rfl | rfl <;> rfl) | (rcases hu with rfl | rfl | rfl | rfl | rfl | rfl <;> rfl) | (rcases hu with rfl | rfl | rfl | rfl | rfl | rfl | rfl <;> rfl) | (rcases hu with rfl | rfl | rfl | rfl | rfl | rfl | rfl | rfl | rfl <;> rfl))) (by omega) (by unfold maxLen; omega) (by omega) (by simp; omega) _ rfl ?_; intro g2 cap2 w8 hown hgrow hat hlt2)
        have k8 : Kept (fun k => some k = (Value.slice ba j bc).ownBlock) w7 w8 := kept_of hgrow (w := w7) (by go_grown)
        have hz8 : w7.heap.size + 1 ≤ w8.heap.size := by have := hgrow.size; simpa using this
        have OK8 : Hid (OwnF 3 1 intRow I64 w.heap.size w8 (.slice (some ⟨g2, 0, none⟩) (j + 1) cap2) (layK (layT f) (n + 1) (ks.take (j + 1))).1) := by
          refine ⟨?_, fun y hy => ?_⟩
          · rw [hst.out]
            simp only [List.length_append, hlk.out, List.length_singleton, rowsOf_append, rowsOf_one]
            rw [← hql.out]
            exact hown
          · rw [hst.out] at hy
            rcases List.mem_append.1 hy with h | h
            · exact hOK2.out y h
            · simp only [List.mem_singleton] at h; rw [h, ← hql.out]; exact hn64.out
        have O8 : Hid (OwnD (fun q => A q ∨ (Value.slice (some ⟨g2, 0, none⟩) (j + 1) cap2).ownBlock = some q) 111 lo w8 v7 qs7) := by
          have h1 := O7.out.kept k8 (fun x hx ha hs => ha (.inr hs.symm)) (by omega)
          refine ⟨h1.own, fun p hp => ?_, fun x hx ha => ?_⟩
          · obtain ⟨h2, h3⟩ := h1.kids p hp
            have h4 := (O7.out.kids p hp).2
            refine ⟨h2, fun x hx => ⟨⟨(h3 x hx).1.1, fun ha => ?_⟩, (h3 x hx).2⟩⟩
            rcases ha with ha | ha
            · exact (h3 x hx).1.2 (.inl ha)
            · obtain rfl : g2 = x := by simpa [Value.ownBlock] using ha
              rcases hat with h | h
              · exact (h3 g2 hx).1.2 (.inr h)
              · have := (h4 g2 hx).2; simp at h; omega
          · rcases ha with ha | ha
            · exact O7.out.out x hx (.inl ha)
            · obtain rfl : g2 = x := by simpa [Value.ownBlock] using ha
              rcases hat with h | h
              · exact O7.out.out g2 hx (.inr h)
              · have := (O7.out.own.base g2 hx).2; simp at h; omega
        have KO8 : Hid (KO lo w8 qs7) := KO7.out.kept O7.out k8 (fun x hx ha _ hs => ha (.inr hs.symm))
        have hB8 : Hid (Below lo w w8) := below_grown2 (wr := w7) (w := w) (base := lo) hgrow (by go_grown) hB70.out (by omega) (own_lo hownK.out hlo)
        have K8 : Hid (Kept (fun q => ¬ A q) w w8) := Kept.trans K70.out hw7 fun x h1 h2 => k8 x h1 fun h => h2 fun ha => by
          have := hA.out x ha
          have := (hobK7.out x h.symm).1
          omega
        clear hgrow hown hat hlt2 k8 hownK hz8 hw7
        go_wp2_with fail
        go_roundw
        case rel => exact ⟨j + 1, v7, _, qs7, by omega, rfl, rfl, by go_num, O8, D7, KO8, hO7, OK8, hB8, K8⟩
        case measure => simp [intOf]; omega
      · obtain rfl : j = m := by omega
        have hfull : ks.take j = ks := List.take_of_length_le (by have := hm.out; omega)
        rw [hfull] at hqs OK hlk hql
        clear hfull
        obtain ⟨gv, cv, hv, hg1, hg2, _, _, hR, hW⟩ := own_cells O.out.own.1 (show 0 < qs.length by omega)
        obtain ⟨rfl, rfl⟩ : va' = some ⟨gv, 0, none⟩ ∧ vc' = cv := by injection hv with e1 e2 e3; exact ⟨e1, e3⟩
        obtain ⟨z3, z_3, y_3⟩ : ∃ c, wr.cell? ⟨gv, n * 4 + 3, none⟩ = some c ∧ wr.frozen? ⟨gv, n * 4 + 3, none⟩ = false := by
          obtain ⟨c, h1, h2⟩ := hW (n * 4 + 3) (by omega)
          rw [Nat.zero_add] at h1 h2
          exact ⟨c, h1, h2⟩
        have hnl : n < qs.length := by omega
        replace hlk := Lib.hid hlk
        obtain ⟨W, hWe⟩ : ∃ W, W = wr.setCell ⟨gv, n * 4 + 3, none⟩ (.slice ba j bc) := ⟨_, rfl⟩
        have hfin : P (.returned (.tuple #[.slice (some ⟨gv, 0, none⟩) qs.length vc', .int .i64 (n : Int)])) W := by
          refine hpost.out _ _ ?_
          obtain ⟨x, hx⟩ : ∃ x, qs[n]? = some x := ⟨_, List.getElem?_eq_getElem hnl⟩
          have hx1 : x.1 = ⟨kd, nn, s, []⟩ := by
            have h : (qs.map (·.1))[n]? = some x.1 := by rw [List.getElem?_map, hx]; rfl
            rw [hqs.out, List.getElem?_append_right (by rw [List.length_map]; have := hn.out; omega), List.length_map, ← hn.out, Nat.sub_self] at h
            exact (Option.some.inj h).symm
          obtain ⟨l1, l2, rfl, hl1⟩ : ∃ l1 l2, qs = l1 ++ x :: l2 ∧ l1.length = n := by
            refine ⟨qs.take n, qs.drop (n + 1), ?_, by rw [List.length_take]; omega⟩
            conv => lhs; rw [← List.take_append_drop n qs]
            congr 1
            rw [List.drop_eq_getElem_cons hnl]
            rw [List.getElem?_eq_getElem hnl] at hx
            rw [Option.some.inj hx]
          obtain ⟨y, hy⟩ : ∃ y : DRow, y = (⟨kd, nn, s, (layK (layT f) (n + 1) ks).1⟩, ba, bc) := ⟨_, rfl⟩
          have e0 : kidsV y = .slice ba j bc := by rw [hy]; unfold kidsV; rw [hlk.out]
          have hrows : ∀ W', W' = W → W'.ownsRow lo 111 4 (.slice (some ⟨gv, 0, none⟩) (l1 ++ x :: l2).length vc') (l1 ++ x :: l2).length (rowsOf drow (l1 ++ y :: l2)) := fun W' hW' => by
            have h := own_store_cells (off := n * 4 + 3) (r := [kidsV y]) O.out.own.1 (by simp; omega)
            rw [← hl1, List.length_singleton, rows_kid l1 l2 x y (by rw [hx1, hy]) (by rw [hx1, hy]) (by rw [hx1, hy]), hl1, e0] at h
            rw [hW', hWe]
            exact h
          have k1 : Kept (· = gv) wr W := by rw [hWe]; exact Kept.set (S := (· = gv)) (p := ⟨gv, n * 4 + 3, none⟩) (Kept.refl _ _) rfl _
          have hsz : W.heap.size = wr.heap.size := by rw [hWe]; simp [World.setCell]
          have hne : ¬ (A gv ∨ (Value.slice ba j bc).ownBlock = some gv) := O.out.out gv rfl
          have hOK : Sl IntR 1 w.heap.size W (.slice ba j bc) (layK (layT f) (n + 1) ks).1 := (OK.out.kept k1 (fun x hx e => by subst e; exact hne (.inr hx))).sl flatInt
          have hmem : ∀ p, p ∈ l1 ++ y :: l2 → p ∈ l1 ++ x :: l2 ∨ p = y := fun p hp => by
            rcases List.mem_append.1 hp with h | h
            · exact .inl (List.mem_append.2 (.inl h))
            · rcases List.mem_cons.1 h with h | h
              · exact .inr h
              · exact .inl (List.mem_append.2 (.inr (List.mem_cons_of_mem _ h)))
          have hlen : (l1 ++ y :: l2).length = (l1 ++ x :: l2).length := by simp
          have hoth : ∀ p, p ∈ l1 ++ x :: l2 → ∀ c, (kidsV p).ownBlock = some c → (kidsV y).ownBlock ≠ some c := fun p hp c hc h => by
            rw [e0] at h
            exact ((O.out.kids p hp).2 c hc).1.2 (.inr h)
          refine ⟨_, l1 ++ y :: l2, rfl, ⟨⟨?_, fun p hp => ?_⟩, fun p hp => ?_, fun c hc ha => ?_⟩, ?_, ?_, ?_, ?_, ?_⟩
          · rw [hlen]; exact hrows W rfl
          · rcases hmem p hp with h | rfl
            · exact O.out.own.2 p h
            · rw [hy]; exact hwf
          · rcases hmem p hp with h | rfl
            · obtain ⟨h1, h2⟩ := O.out.kids p h
              exact ⟨sl_kept flatInt h1 k1 fun c hc e => (h2 c hc).1.1 (by rw [e]; rfl), fun c hc => ⟨⟨(h2 c hc).1.1, fun ha => (h2 c hc).1.2 (.inl ha)⟩, by rw [hsz]; exact (h2 c hc).2⟩⟩
            · rw [e0]
              refine ⟨by rw [hy]; exact hOK.mono IntR.good hlo, fun c hc => ⟨⟨fun e => ?_, fun ha => ?_⟩, ?_⟩⟩
              · obtain rfl : gv = c := by simpa [Value.ownBlock] using e
                exact hne (.inr hc)
              · have := hA.out c ha
                have := (OK.out.base c hc).1
                omega
              · have := (OK.out.base c hc).2
                omega
          · exact O.out.out c hc (.inl ha)
          · have hd := List.pairwise_append.1 D.out
            have hd2 := List.pairwise_cons.1 hd.2.1
            refine List.pairwise_append.2 ⟨hd.1, List.pairwise_cons.2 ⟨fun p hp c hc h => ?_, hd2.2⟩, fun p hp q hq => ?_⟩
            · exact hoth p (List.mem_append.2 (.inr (List.mem_cons_of_mem _ hp))) c h hc
            · rcases List.mem_cons.1 hq with rfl | hq
              · exact fun c hc h => hoth p (List.mem_append.2 (.inl hp)) c hc h
              · exact hd.2.2 p hp q (List.mem_cons_of_mem _ hq)
          · intro p hp
            rcases hmem p hp with h | rfl
            · exact (KQ.out.kept O.out k1 (fun g _ _ h1 e => h1 (by rw [e]; rfl))) p h
            · have h := (OK.out.kept k1 (fun x hx e => by subst e; exact hne (.inr hx))).mono hlo
              rw [e0, hy]
              exact h
          · have h := hqs.out
            rw [List.map_append, List.map_cons] at h
            have h1 := List.append_inj h (by rw [List.length_map, List.length_map, hl1]; exact hn.out)
            have h2 := (List.cons.inj h1.2).2
            rw [List.map_append, List.map_cons, h1.1, h2, hlay.out, hy]
          · rw [hWe]; exact hB.out.setCell (p := ⟨gv, n * 4 + 3, none⟩) hg1 _
          · exact Kept.trans K.out hB.out.size fun x h1 h2 => k1 x h1 fun e => by subst e; exact h2 fun ha => hne (.inl ha)
        replace hfin := Lib.hid hfin; replace hql := Lib.hid hql
        clear hR hW O OK hk hv
        generalize hnl : qs.length = nl at *
        replace hnl := Lib.hid hnl
        go_wp2_with fail
        rw [← hWe]
        exact hfin.out
end Go.Proofs.YtaimekaagmcmnaaGreat

/- Parts of the proof, merged: Pr0, Pr1. -/
import Derived.Deep.RegionHeld3
import Derived.Deep.RegionLaw
import Derived.Test.YtaimekaagmcmnaaGreatNe14
/- The program's parser: its state, frames, trees. No program is walked here. -/
namespace Go.Proofs.YtaimekaagmcmnaaGreat
open Go.RowKit
set_option linter.unusedVariables false
set_option linter.unusedSimpArgs false
attribute [local go_sem] Ext.cell

structure PC where
  L : List GTok
  E : Nat
  ta : Option Addr
  tc : Nat
def tokRow (t : GTok) : List Value := [.int .i64 t.kind, .int .i64 t.n, .string t.s, .int .i64 t.at_]
structure PC.Ok (C : PC) (b : Nat) (w : World) : Prop where
  cap : C.L.length ≤ C.tc
  big : C.tc ≤ 9223372036854775807
  len : C.L.length ≤ 4000
  end_ : C.E ≤ 4000
  wf : ∀ t ∈ C.L, t.wf
  toks : 0 < C.L.length → ∃ g off, C.ta = some ⟨g, off, none⟩ ∧ g < b ∧ ∀ (i : Nat) t, C.L[i]? = some t → RowAt w g (off + i * 4) (tokRow t)
theorem PC.Ok.to {C : PC} {b : Nat} {w w' : World} (h : C.Ok b w) (hb : Below b w w') : C.Ok b w' :=
  ⟨h.cap, h.big, h.len, h.end_, h.wf, fun h0 => let ⟨g, off, h1, h2, h3⟩ := h.toks h0; ⟨g, off, h1, h2, fun i t hi j c hc => by
    have := h3 i t hi j c hc
    rw [World.cell?_of_block (w := w) (a := ⟨g, off + i * 4 + j, none⟩) (hb.block g h2)]; exact this⟩⟩
structure PS (C : PC) (b : Nat) (w : World) (i : Nat) (nv : Value) (ns : List ByteArray) : Prop where
  ok : C.Ok b w
  row : RowAt w b 0 [.slice C.ta C.L.length C.tc, .int .i64 i, .int .i64 C.E, .int .i64 0, .int .i64 0, .slice none 0 0, nv]
  wr : Wr w b 0 7
  nam : OwnF 9 1 strRow StrOk (b + 1) w nv ns
  ile : i ≤ C.L.length
  nle : ns.length ≤ i
structure PF (b : Nat) (w : World) (nv : Value) (w' : World) (nv' : Value) : Prop where
  below : Below b w w'
  kept : Kept (fun q => q = b ∨ nv.ownBlock = some q) w w'
  blk : ∀ q, nv'.ownBlock = some q → nv.ownBlock = some q ∨ w.heap.size ≤ q
theorem PF.size {b : Nat} {w w' : World} {nv nv' : Value} (h : PF b w nv w' nv') : w.heap.size ≤ w'.heap.size := h.below.size
theorem PF.refl (b : Nat) (w : World) (nv : Value) : PF b w nv w nv := ⟨Below.refl _ _, Kept.refl _ _, fun q h => .inl h⟩
theorem PF.trans {b : Nat} {w w1 w2 : World} {nv nv1 nv2 : Value} (h : PF b w nv w1 nv1) (k : PF b w1 nv1 w2 nv2) : PF b w nv w2 nv2 := by
  have hs := h.size
  refine ⟨h.below.trans k.below, fun q h1 h2 => (k.kept q (by omega) fun h3 => ?_).trans (h.kept q h1 h2), fun q hq => ?_⟩
  · rcases h3 with h3 | h3
    · exact h2 (.inl h3)
    · rcases h.blk q h3 with h4 | h4
      · exact h2 (.inr h4)
      · omega
  · rcases k.blk q hq with h3 | h3
    · exact h.blk q h3
    · exact .inr (by omega)
theorem PF.of {b : Nat} {w w' : World} (nv : Value) (h : Below w.heap.size w w') (hb : b ≤ w.heap.size) : PF b w nv w' nv := ⟨h.mono hb, Kept.below h, fun q h => .inl h⟩
theorem PF.set {b : Nat} {w w' : World} {nv nv' : Value} (h : PF b w nv w' nv') (o : Nat) (u : Value) : PF b w nv (w'.setCell ⟨b, o, none⟩ u) nv' :=
  ⟨h.below.setCell (p := ⟨b, o, none⟩) (Nat.le_refl _) u, h.kept.set (p := ⟨b, o, none⟩) (.inl rfl) u, h.blk⟩
theorem PS.lt {C : PC} {b : Nat} {w : World} {i : Nat} {nv : Value} {ns : List ByteArray} (h : PS C b w i nv ns) : b < w.heap.size := World.block_lt_of_cell? _ _ (h.row 0 _ rfl)
theorem PS.below {C : PC} {b : Nat} {w w' : World} {i : Nat} {nv : Value} {ns : List ByteArray} (h : PS C b w i nv ns) (hb : Below w.heap.size w w') : PS C b w' i nv ns :=
  ⟨h.ok.to (hb.mono (Nat.le_of_lt h.lt)), h.row.below hb, h.wr.below hb, h.nam.below hb, h.ile, h.nle⟩
theorem PS.setAt {C : PC} {b : Nat} {w : World} {i j : Nat} {nv : Value} {ns : List ByteArray} (h : PS C b w i nv ns) (hj : j ≤ C.L.length) (hij : i ≤ j) : PS C b (w.setCell ⟨b, 1, none⟩ (.int .i64 (j : Int))) j nv ns :=
  ⟨h.ok.to ((Below.refl b w).setCell (p := ⟨b, 1, none⟩) (Nat.le_refl _) _), h.row.putAt (j := 1) (by simp) _, h.wr.set 1 _,
    h.nam.kept (S := fun q => q = b) ((Kept.refl (fun q => q = b) w).set (p := ⟨b, 1, none⟩) rfl _) (fun g hg e => by have := (own_base h.nam.1 g hg).1; omega), hj, Nat.le_trans h.nle hij⟩

def TR (lo : Nat) (nv : Value) (w : World) (p : Value) (t : ExT) : Prop := ∃ F, ExR F (fun q => lo ≤ q ∧ nv.ownBlock ≠ some q) w p t
def TP (lo : Nat) (nv : Value) (w : World) (p : Value) (t : PxT) : Prop := ∃ F, PxR F (fun q => lo ≤ q ∧ nv.ownBlock ≠ some q) w p t
theorem TR.step {b lo : Nat} {nv nv' p : Value} {w w' : World} {t : ExT} (h : TR lo nv w p t) (f : PF b w nv w' nv') (hb : b < lo) : TR lo nv' w' p t := by
  obtain ⟨F, h⟩ := h
  refine ⟨F, h.to (fun q h1 h2 => f.kept q h2 fun e => ?_) fun q h1 h2 => ⟨h1.1, fun e => ?_⟩⟩
  · rcases e with e | e
    · have := h1.1; omega
    · exact h1.2 e
  · rcases f.blk q e with h3 | h3
    · exact h1.2 h3
    · omega
theorem TP.step {b lo : Nat} {nv nv' p : Value} {w w' : World} {t : PxT} (h : TP lo nv w p t) (f : PF b w nv w' nv') (hb : b < lo) : TP lo nv' w' p t := by
  obtain ⟨F, h⟩ := h
  refine ⟨F, h.to (fun q h1 h2 => f.kept q h2 fun e => ?_) fun q h1 h2 => ⟨h1.1, fun e => ?_⟩⟩
  · rcases e with e | e
    · have := h1.1; omega
    · exact h1.2 e
  · rcases f.blk q e with h3 | h3
    · exact h1.2 h3
    · omega
theorem TR.lower {lo lo' : Nat} {nv p : Value} {w : World} {t : ExT} (h : TR lo nv w p t) (hl : lo' ≤ lo) : TR lo' nv w p t := let ⟨F, h⟩ := h; ⟨F, h.to (Same.below (Below.refl _ _)) fun q h1 _ => ⟨Nat.le_trans hl h1.1, h1.2⟩⟩
theorem TP.lower {lo lo' : Nat} {nv p : Value} {w : World} {t : PxT} (h : TP lo nv w p t) (hl : lo' ≤ lo) : TP lo' nv w p t := let ⟨F, h⟩ := h; ⟨F, h.to (Same.below (Below.refl _ _)) fun q h1 _ => ⟨Nat.le_trans hl h1.1, h1.2⟩⟩
theorem TR.below {lo : Nat} {nv p : Value} {w w' : World} {t : ExT} (h : TR lo nv w p t) (hb : Below w.heap.size w w') : TR lo nv w' p t := let ⟨F, h⟩ := h; ⟨F, h.below hb⟩
theorem TP.below {lo : Nat} {nv p : Value} {w w' : World} {t : PxT} (h : TP lo nv w p t) (hb : Below w.heap.size w w') : TP lo nv w' p t := let ⟨F, h⟩ := h; ⟨F, h.below hb⟩
theorem TR.form {lo : Nat} {nv p : Value} {w : World} {t : ExT} (h : TR lo nv w p t) : ∃ q, p = .pointer (some ⟨q, 0, none⟩) := let ⟨_, h⟩ := h; h.form
theorem TP.form {lo : Nat} {nv p : Value} {w : World} {t : PxT} (h : TP lo nv w p t) : ∃ q, p = .pointer (some ⟨q, 0, none⟩) := let ⟨_, h⟩ := h; h.form
theorem exRs_up {S : Nat → Prop} {w : World} : ∀ (vs : List Value) (ts : List ExT), vs.length = ts.length → (∀ (i : Nat) p t, vs[i]? = some p → ts[i]? = some t → ∃ F, ExR F S w p t) → ∃ F, ∀ (i : Nat) p t, vs[i]? = some p → ts[i]? = some t → ExR F S w p t
  | [], _, _, _ => ⟨0, fun i p t h => by simp at h⟩
  | v :: vs, [], h, _ => by simp at h
  | v :: vs, t :: ts, hl, h => by
    obtain ⟨F, hF⟩ := exRs_up vs ts (by simpa using hl) (fun i p u h1 h2 => h (i + 1) p u (by simpa using h1) (by simpa using h2))
    obtain ⟨G, hG⟩ := h 0 v t rfl rfl
    refine ⟨F + G, fun i p u h1 h2 => ?_⟩
    cases i with
    | zero => simp at h1 h2; subst h1 h2; exact hG.mono (by omega)
    | succ i => exact (hF i p u (by simpa using h1) (by simpa using h2)).mono (by omega)
theorem pxRs_up {S : Nat → Prop} {w : World} (hm : ∀ {F G : Nat} {p : Value} {t : PxT}, PxR F S w p t → F ≤ G → PxR G S w p t) : ∀ (vs : List Value) (ts : List PxT), vs.length = ts.length → (∀ (i : Nat) p t, vs[i]? = some p → ts[i]? = some t → ∃ F, PxR F S w p t) → ∃ F, ∀ (i : Nat) p t, vs[i]? = some p → ts[i]? = some t → PxR F S w p t
  | [], _, _, _ => ⟨0, fun i p t h => by simp at h⟩
  | v :: vs, [], h, _ => by simp at h
  | v :: vs, t :: ts, hl, h => by
    obtain ⟨F, hF⟩ := pxRs_up hm vs ts (by simpa using hl) (fun i p u h1 h2 => h (i + 1) p u (by simpa using h1) (by simpa using h2))
    obtain ⟨G, hG⟩ := h 0 v t rfl rfl
    refine ⟨F + G, fun i p u h1 h2 => ?_⟩
    cases i with
    | zero => simp at h1 h2; subst h1 h2; exact hm hG (by omega)
    | succ i => exact hm (hF i p u (by simpa using h1) (by simpa using h2)) (by omega)
theorem PxR.up1 : ∀ {f : Nat} {S : Nat → Prop} {w : World} {v : Value} {t : PxT}, PxR f S w v t → PxR (f + 1) S w v t
  | 0, _, _, _, _, h => absurd h (by simp [PxR])
  | f + 1, S, w, v, t, ⟨b, a, cap, hv, hS, hwf, hr, h1, h2, h3⟩ => ⟨b, a, cap, hv, hS, hwf, hr, h1, h2, fun h0 =>
      let ⟨g, off, ha, hg, hk⟩ := h3 h0
      ⟨g, off, ha, hg, fun i k hik => let ⟨p, hp, hR⟩ := hk i k hik; ⟨p, hp, hR.up1⟩⟩⟩
theorem PxR.more {f g : Nat} {S : Nat → Prop} {w : World} {v : Value} {t : PxT} (h : PxR f S w v t) (hfg : f ≤ g) : PxR g S w v t := by
  induction g with
  | zero => obtain rfl : f = 0 := by omega
            exact h
  | succ g ih =>
    by_cases e : f = g + 1
    · exact e ▸ h
    · exact (ih (by omega)).up1
theorem TR.node {lo b g c : Nat} {nv : Value} {w : World} {kd at_ nn : Int} {s : ByteArray} {ts : List ExT} {vs : List Value} (hb : lo ≤ b ∧ nv.ownBlock ≠ some b) (hg : lo ≤ g ∧ nv.ownBlock ≠ some g) (hwf : (ExT.mk kd at_ nn s ts []).wf)
    (hr : RowAt w b 0 [.int .i64 kd, .int .i64 at_, .int .i64 nn, .string s, .slice (some ⟨g, 0, none⟩) ts.length c, .slice none 0 0]) (hc : ts.length ≤ c) (hc2 : c ≤ 9223372036854775807) (hv : RowAt w g 0 vs) (hl : vs.length = ts.length)
    (hk : ∀ (i : Nat) p t, vs[i]? = some p → ts[i]? = some t → TR lo nv w p t) : TR lo nv w (.pointer (some ⟨b, 0, none⟩)) (.mk kd at_ nn s ts []) := by
  obtain ⟨F, hF⟩ := exRs_up vs ts hl hk
  exact ⟨F + 1, ExR.node (S := fun q => lo ≤ q ∧ nv.ownBlock ≠ some q) hb hg hwf hr hc hc2 hv hl hF⟩
theorem TR.leaf {lo b c : Nat} {nv : Value} {w : World} {kd at_ nn : Int} {s : ByteArray} {a : Option Addr} (hb : lo ≤ b ∧ nv.ownBlock ≠ some b) (hwf : (ExT.mk kd at_ nn s [] []).wf) (hc : c ≤ 9223372036854775807)
    (hr : RowAt w b 0 [.int .i64 kd, .int .i64 at_, .int .i64 nn, .string s, .slice a 0 c, .slice none 0 0]) : TR lo nv w (.pointer (some ⟨b, 0, none⟩)) (.mk kd at_ nn s [] []) :=
  ⟨1, ExR.leaf (S := fun q => lo ≤ q ∧ nv.ownBlock ≠ some q) hb hwf hc hr⟩
theorem TP.node {lo b g c : Nat} {nv : Value} {w : World} {kd nn : Int} {s : ByteArray} {ts : List PxT} {vs : List Value} (hb : lo ≤ b ∧ nv.ownBlock ≠ some b) (hg : lo ≤ g ∧ nv.ownBlock ≠ some g) (hwf : (PxT.mk kd nn s ts).wf)
    (hr : RowAt w b 0 [.int .i64 kd, .int .i64 nn, .string s, .slice (some ⟨g, 0, none⟩) ts.length c]) (hc : ts.length ≤ c) (hc2 : c ≤ 9223372036854775807) (hv : RowAt w g 0 vs) (hl : vs.length = ts.length)
    (hk : ∀ (i : Nat) p t, vs[i]? = some p → ts[i]? = some t → TP lo nv w p t) : TP lo nv w (.pointer (some ⟨b, 0, none⟩)) (.mk kd nn s ts) := by
  obtain ⟨F, hF⟩ := pxRs_up (fun h hfg => h.more hfg) vs ts hl hk
  exact ⟨F + 1, b, _, c, rfl, hb, hwf, hr, hc, hc2, fun _ => ⟨g, 0, rfl, hg, fun i k hi => by
    obtain ⟨p, hp⟩ : ∃ p, vs[i]? = some p := ⟨_, List.getElem?_eq_getElem (by rw [hl]; exact (List.getElem?_eq_some_iff.1 hi).1)⟩
    exact ⟨p, hv i p hp, hF i p k hp hi⟩⟩⟩
theorem TP.leaf {lo b : Nat} {nv : Value} {w : World} {kd nn : Int} {s : ByteArray} (hb : lo ≤ b ∧ nv.ownBlock ≠ some b) (hwf : (PxT.mk kd nn s []).wf)
    (hr : RowAt w b 0 [.int .i64 kd, .int .i64 nn, .string s, .slice none 0 0]) : TP lo nv w (.pointer (some ⟨b, 0, none⟩)) (.mk kd nn s []) :=
  ⟨1, b, none, 0, rfl, hb, hwf, hr, Nat.zero_le _, Nat.zero_le _, fun h => absurd h (by simp [PxT.kids])⟩
theorem PS.fresh {C : PC} {b : Nat} {w : World} {i : Nat} {nv : Value} {ns : List ByteArray} (h : PS C b w i nv ns) {q : Nat} (hq : w.heap.size ≤ q) : nv.ownBlock ≠ some q := fun e => by
  have := (own_base h.nam.1 q e).2; omega

def EPost (C : PC) (b : Nat) (w : World) (nv : Value) (o : POut ExT) (e : Ending) (w' : World) : Prop :=
  ∃ q nv', e = .returned (.pointer (some ⟨q, 0, none⟩)) ∧ PS C b w' o.i nv' o.ns ∧ PF b w nv w' nv' ∧ TR w.heap.size nv' w' (.pointer (some ⟨q, 0, none⟩)) o.t
def PPost (C : PC) (b : Nat) (w : World) (nv : Value) (o : POut PxT) (e : Ending) (w' : World) : Prop :=
  ∃ q nv', e = .returned (.pointer (some ⟨q, 0, none⟩)) ∧ PS C b w' o.i nv' o.ns ∧ PF b w nv w' nv' ∧ TP w.heap.size nv' w' (.pointer (some ⟨q, 0, none⟩)) o.t
end Go.Proofs.YtaimekaagmcmnaaGreat

/- The program's parser: tok, sign, eat, word, what starts what. -/
namespace Go.Proofs.YtaimekaagmcmnaaGreat
open Go.RowKit
set_option linter.unusedVariables false
set_option linter.unusedSimpArgs false
attribute [local go_sem] Ext.cell

theorem ret_tok1 {fn : Func} {tmps : Array Value} {a g : Nat} {v0 v1 v2 v3 : Value} {w : World} (hf : fn.results = #[.cell a 181]) (hp : tmps.getD a undef = .pointer (some ⟨g, 0, none⟩)) (h : RowAt w g 0 [v0, v1, v2, v3]) :
    (results fn tmps).run Tryz.prog w = .ok (.agg #[v0, v1, v2, v3]) w := by
  have hp' : tmps[a]?.getD undef = .pointer (some ⟨g, 0, none⟩) := by simpa using hp
  obtain ⟨h0, h1, h2, h3⟩ := h.box4
  simp [results, hf, go_sem, hp', h0, h1, h2, h3]
theorem row4p {w : World} {b : Nat} {a0 a1 a2 a3 : Value} (h : RowAt w b 0 [a0, a1, a2, a3]) (v0 v1 v2 v3 : Value) : RowAt ((((w.setCell ⟨b, 0, none⟩ v0).setCell ⟨b, 1, none⟩ v1).setCell ⟨b, 2, none⟩ v2).setCell ⟨b, 3, none⟩ v3) b 0 [v0, v1, v2, v3] :=
  (((h.putAt (j := 0) (by simp) v0).putAt (j := 1) (by simp) v1).putAt (j := 2) (by simp) v2).putAt (j := 3) (by simp) v3
theorem RowAt.box7p {w : World} {b : Nat} {a0 a1 a2 a3 a4 a5 a6 : Value} (h : RowAt w b 0 [a0, a1, a2, a3, a4, a5, a6]) : w.cell? ⟨b, 0, none⟩ = some a0 ∧ w.cell? ⟨b, 1, none⟩ = some a1 ∧ w.cell? ⟨b, 2, none⟩ = some a2 ∧ w.cell? ⟨b, 3, none⟩ = some a3 ∧ w.cell? ⟨b, 4, none⟩ = some a4 ∧ w.cell? ⟨b, 5, none⟩ = some a5 ∧ w.cell? ⟨b, 6, none⟩ = some a6 :=
  ⟨(Nat.zero_add 0) ▸ h 0 _ rfl, (Nat.zero_add 1) ▸ h 1 _ rfl, (Nat.zero_add 2) ▸ h 2 _ rfl, (Nat.zero_add 3) ▸ h 3 _ rfl, (Nat.zero_add 4) ▸ h 4 _ rfl, (Nat.zero_add 5) ▸ h 5 _ rfl, (Nat.zero_add 6) ▸ h 6 _ rfl⟩
theorem tokAt_in {L : List GTok} {E i : Nat} {t : GTok} (h : L[i]? = some t) : tokAt L E i = t := by unfold tokAt; rw [h]; rfl
theorem tokAt_out {L : List GTok} {E i : Nat} (h : L.length ≤ i) : tokAt L E i = ⟨0, 0, ⟨#[]⟩, E⟩ := by unfold tokAt; rw [List.getElem?_eq_none h]; rfl
theorem tokAt_kind {L : List GTok} {E i : Nat} (h : (tokAt L E i).kind ≠ 0) : i < L.length := by
  rcases Nat.lt_or_ge i L.length with h1 | h1
  · exact h1
  · rw [tokAt_out h1] at h; exact absurd rfl h
theorem sgn_in {L : List GTok} {E i : Nat} {s : ByteArray} (h : eqS (sgn (tokAt L E i)) s = true) (hs : 0 < s.size) : i < L.length ∧ (tokAt L E i).kind = 6 ∧ (tokAt L E i).s = s := by
  rw [eqS_iff] at h
  unfold sgn at h
  split at h
  · rename_i hk; exact ⟨tokAt_kind (by rw [hk]; decide), hk, h⟩
  · rw [← h] at hs; exact absurd hs (by decide)
theorem tokAt_wf {C : PC} {b : Nat} {w : World} (h : C.Ok b w) (i : Nat) : (tokAt C.L C.E i).wf := by
  rcases Nat.lt_or_ge i C.L.length with h1 | h1
  · rw [tokAt_in (List.getElem?_eq_getElem h1)]; exact h.wf _ (List.getElem_mem _)
  · rw [tokAt_out h1]
    have := h.end_
    exact ⟨⟨by show _ ≤ (0 : Int); omega, by show (0 : Int) ≤ _; omega⟩, ⟨by show _ ≤ (0 : Int); omega, by show (0 : Int) ≤ _; omega⟩, by show (⟨#[]⟩ : ByteArray).size ≤ _; decide, ⟨by show _ ≤ (C.E : Int); omega, by show (C.E : Int) ≤ _; omega⟩⟩

theorem tok_f0 (kd nn : Int) (s0 : ByteArray) (a : Int) (W : World) : (Instr.field 181 (.agg #[.int .i64 kd, .int .i64 nn, .string s0, .int .i64 a]) 0).run Tryz.prog W = .ok (.int .i64 kd) W := by kernel_rfl
theorem tok_f3 (kd nn : Int) (s0 : ByteArray) (a : Int) (W : World) : (Instr.field 181 (.agg #[.int .i64 kd, .int .i64 nn, .string s0, .int .i64 a]) 3).run Tryz.prog W = .ok (.int .i64 a) W := by kernel_rfl
set_option maxRecDepth 100000 in
set_option maxHeartbeats 4000000 in
theorem tok_c {C : PC} {b i : Nat} {w : World} {nv : Value} {ns : List ByteArray} (P : PS C b w i nv ns) :
    Calls Tryz.prog 140 #[.pointer (some ⟨b, 0, none⟩)] w fun e w' => e = .returned (.agg (tokRow (tokAt C.L C.E i)).toArray) ∧ Below w.heap.size w w' := by
  have hbl0 := P.lt
  have hile := P.ile
  have hlen := P.ok.len
  by_cases hi : i < C.L.length
  · obtain ⟨t, ht⟩ : ∃ t, C.L[i]? = some t := ⟨_, List.getElem?_eq_getElem hi⟩
    rw [tokAt_in ht]
    obtain ⟨g, off, hta, hgb, hrows⟩ := P.ok.toks (by omega)
    have hr : RowAt w g (off + i * 4) [.int .i64 t.kind, .int .i64 t.n, .string t.s, .int .i64 t.at_] := hrows i t ht
    show Calls Tryz.prog 140 #[.pointer (some ⟨b, 0, none⟩)] w fun e w' => e = .returned (.agg #[.int .i64 t.kind, .int .i64 t.n, .string t.s, .int .i64 t.at_]) ∧ Below w.heap.size w w'
    have hcap := P.ok.cap
    have hrow := P.row
    rw [hta] at hrow
    have d1 : decide ((C.L.length : Int) ≤ (i : Int)) = false := decide_eq_false (by omega)
    have d2 : decide (C.L.length ≤ i) = false := decide_eq_false (by omega)
    go_enter Tryz.func140, Tryz.ntmps140
    go_upto_region 1 with fail
    obtain ⟨w1, hW1⟩ : ∃ W, W = w.alloc (.cells #[.int .i64 0, .int .i64 0, .string ⟨#[]⟩, .int .i64 0] 181) := ⟨_, rfl⟩
    rw [← hW1]
    have hb1 : Below w.heap.size w w1 := by rw [hW1]; go_grown
    have E1 : RowAt w1 w.heap.size 0 [.int .i64 0, .int .i64 0, .string ⟨#[]⟩, .int .i64 0] := by rw [hW1]; exact RowAt.box w #[_, _, _, _] _
    have EW1 : Wr w1 w.heap.size 0 4 := by rw [hW1]; exact Wr.box w #[_, _, _, _] _
    have P1 := hrow.below hb1
    have hr1 := hr.below hb1
    clear hW1
    have hz1 := hb1.size
    obtain ⟨p_0, p_1, p_2, p_3, p_4, p_5, p_6⟩ := P1.box7p
    have hbl := World.block_lt_of_cell? _ _ p_0; dsimp only at hbl
    generalize C.L.length = n at *
    (refine wp_region_ext_lit (by kernel_rfl) (by kernel_rfl) ?_; (repeat (any_goals (first | go_big_quiet_step (fail) | quiet_step (fail) | (refine wpQuiet_step (fun K hK => ?_); go_simp; split <;> (refine hK _ ?_; clear hK K))))); all_goals (refine wpQuiet_nil ?_; rintro wq ⟨⟨_, hbq⟩, rfl⟩))
    have P2 := P1.below hbq
    have hr2 := hr1.below hbq
    have E2 := E1.below hbq
    have EW2 := EW1.below hbq
    have hw2 := hb1.trans (hbq.mono hz1)
    have hz2 := hw2.size
    clear p_0 p_1 p_2 p_3 p_4 p_5 p_6 hbl
    obtain ⟨p_0, p_1, p_2, p_3, p_4, p_5, p_6⟩ := P2.box7p
    have hbl := World.block_lt_of_cell? _ _ p_0; dsimp only at hbl
    obtain ⟨e_0, e_1, e_2, e_3⟩ := E2.box4
    have hsE := World.block_lt_of_cell? _ _ e_0; dsimp only at hsE
    have f_0 := EW2.frz 0 (by omega); have f_1 := EW2.frz 1 (by omega); have f_2 := EW2.frz 2 (by omega); have f_3 := EW2.frz 3 (by omega)
    obtain ⟨t_0, t_1, t_2, t_3⟩ := hr2.cells4
    have hgl := World.block_lt_of_cell? _ _ t_0; dsimp only at hgl
    go_upto_region 3 with fail
    go_region_law (fail)
    all_goals go_wp2_with fail
    all_goals refine bodyPost_ret (ret_tok1 (a := 2) Tryz.results140 rfl (row4p (w := wq.drew) E2 (.int .i64 t.kind) (.int .i64 t.n) (.string t.s) (.int .i64 t.at_))) rfl ?_
    all_goals exact ⟨rfl, (((hw2.drew.setCell (p := ⟨w.heap.size, 0, none⟩) (Nat.le_refl _) _).setCell (p := ⟨w.heap.size, 1, none⟩) (Nat.le_refl _) _).setCell (p := ⟨w.heap.size, 2, none⟩) (Nat.le_refl _) _).setCell (p := ⟨w.heap.size, 3, none⟩) (Nat.le_refl _) _⟩
  · have d1 : decide ((C.L.length : Int) ≤ (i : Int)) = true := decide_eq_true (by omega)
    rw [tokAt_out (by omega)]
    have hrow := P.row
    go_enter Tryz.func140, Tryz.ntmps140
    go_upto_region 1 with fail
    obtain ⟨w1, hW1⟩ : ∃ W, W = w.alloc (.cells #[.int .i64 0, .int .i64 0, .string ⟨#[]⟩, .int .i64 0] 181) := ⟨_, rfl⟩
    rw [← hW1]
    have hb1 : Below w.heap.size w w1 := by rw [hW1]; go_grown
    have E1 : RowAt w1 w.heap.size 0 [.int .i64 0, .int .i64 0, .string ⟨#[]⟩, .int .i64 0] := by rw [hW1]; exact RowAt.box w #[_, _, _, _] _
    have EW1 : Wr w1 w.heap.size 0 4 := by rw [hW1]; exact Wr.box w #[_, _, _, _] _
    have P1 := hrow.below hb1
    clear hW1
    have hz1 := hb1.size
    obtain ⟨p_0, p_1, p_2, p_3, p_4, p_5, p_6⟩ := P1.box7p
    have hbl := World.block_lt_of_cell? _ _ p_0; dsimp only at hbl
    generalize C.L.length = n at *
    (refine wp_region_ext_lit (by kernel_rfl) (by kernel_rfl) ?_; (repeat (any_goals (first | go_big_quiet_step (fail) | quiet_step (fail) | (refine wpQuiet_step (fun K hK => ?_); go_simp; split <;> (refine hK _ ?_; clear hK K))))); all_goals (refine wpQuiet_nil ?_; rintro wq ⟨⟨_, hbq⟩, rfl⟩))
    have P2 := P1.below hbq
    have E2 := E1.below hbq
    have E2W := EW1.below hbq
    have hw2 := hb1.trans (hbq.mono hz1)
    have hz2 := hw2.size
    clear p_0 p_1 p_2 p_3 p_4 p_5 p_6 hbl
    obtain ⟨p_0, p_1, p_2, p_3, p_4, p_5, p_6⟩ := P2.box7p
    have hbl := World.block_lt_of_cell? _ _ p_0; dsimp only at hbl
    have e2f_0 := E2W.frz 0 (by omega); have e2f_1 := E2W.frz 1 (by omega); have e2f_2 := E2W.frz 2 (by omega); have e2f_3 := E2W.frz 3 (by omega); obtain ⟨e2_0, e2_1, e2_2, e2_3⟩ := E2.box4; have hsE2 := World.block_lt_of_cell? _ _ e2_0; dsimp only at hsE2
    go_wp2_with fail
    refine bodyPost_ret (ret_tok1 (a := 2) Tryz.results140 rfl (row4p E2 (.int .i64 0) (.int .i64 0) (.string ⟨#[]⟩) (.int .i64 (C.E : Int)))) rfl ?_
    exact ⟨rfl, by go_grown⟩

set_option maxRecDepth 100000 in
set_option maxHeartbeats 4000000 in
theorem SignOf_c (t : GTok) (w : World) : Calls Tryz.prog 142 #[.agg (tokRow t).toArray] w fun e w' => e = .returned (.string (sgn t)) ∧ Below w.heap.size w w' := by
  obtain ⟨kd, nn, s, a⟩ := t
  show Calls Tryz.prog 142 #[.agg #[.int .i64 kd, .int .i64 nn, .string s, .int .i64 a]] w fun e w' => e = .returned (.string (if kd = 6 then s else bs [])) ∧ Below w.heap.size w w'
  by_cases h : kd = 6
  · rw [if_pos h]
    subst h
    go_enter Tryz.func142, Tryz.ntmps142
    go_wp2_with fail
    go_returns
    exact ⟨rfl, by go_grown⟩
  · rw [if_neg h]
    have d1 : (kd != 6) = true := by simpa using h
    go_enter Tryz.func142, Tryz.ntmps142
    go_wp2_with fail
    go_returns
    exact ⟨rfl, by go_grown⟩
set_option maxRecDepth 100000 in
set_option maxHeartbeats 4000000 in
theorem sign_c {C : PC} {b i : Nat} {w : World} {nv : Value} {ns : List ByteArray} (P : PS C b w i nv ns) :
    Calls Tryz.prog 135 #[.pointer (some ⟨b, 0, none⟩)] w fun e w' => e = .returned (.string (sgn (tokAt C.L C.E i))) ∧ Below w.heap.size w w' := by
  have cT := tok_c P
  have cS := fun W => SignOf_c (tokAt C.L C.E i) W
  generalize tokAt C.L C.E i = t at *
  obtain ⟨kd, nn, s, a⟩ := t
  replace cT : Calls Tryz.prog 140 #[.pointer (some ⟨b, 0, none⟩)] w fun e w' => e = .returned (.agg #[.int .i64 kd, .int .i64 nn, .string s, .int .i64 a]) ∧ Below w.heap.size w w' := cT
  replace cS : ∀ W, Calls Tryz.prog 142 #[.agg #[.int .i64 kd, .int .i64 nn, .string s, .int .i64 a]] W fun e w' => e = .returned (.string (sgn ⟨kd, nn, s, a⟩)) ∧ Below W.heap.size W w' := cS
  generalize sgn ⟨kd, nn, s, a⟩ = g at *
  replace cT := Lib.hid cT; replace cS := Lib.hid cS
  go_enter Tryz.func135, Tryz.ntmps135
  go_wp2_with (first | (go_at_call 140; (with_reducible refine (cT.out).mono ?_); rintro e w1 ⟨rfl, hb1⟩) | (go_at_call 142; (with_reducible refine (cS.out _).mono ?_); rintro e w2 ⟨rfl, hb2⟩))
  go_returns
  exact ⟨rfl, hb1.trans (hb2.mono hb1.size)⟩
set_option maxRecDepth 100000 in
set_option maxHeartbeats 4000000 in
theorem eat_c {C : PC} {b i j : Nat} {w : World} {nv : Value} {ns : List ByteArray} (P : PS C b w i nv ns) (s : ByteArray) (hs : 0 < s.size) (h : eatP C.L C.E i s = some j) :
    Calls Tryz.prog 137 #[.pointer (some ⟨b, 0, none⟩), .string s] w fun e w' => e = .returned (.int .i64 (tokAt C.L C.E i).at_) ∧ PS C b w' j nv ns ∧ PF b w nv w' nv := by
  unfold eatP at h
  split at h
  rotate_left
  · cases h
  rename_i hq
  obtain rfl := Option.some.inj h
  obtain ⟨hi, hk6, hts⟩ := sgn_in hq hs
  have cT := tok_c P
  have cS := fun W (hW : Below w.heap.size w W) => sign_c (P.below hW)
  have hsg : sgn (tokAt C.L C.E i) = s := eqS_iff.1 hq
  rw [hsg] at cS
  have d1 : (s.toList != s.toList) = false := by simp
  have hlen := P.ok.len
  generalize tokAt C.L C.E i = t at *
  obtain ⟨kd, nn, s0, a⟩ := t
  replace cT : Calls Tryz.prog 140 #[.pointer (some ⟨b, 0, none⟩)] w fun e w' => e = .returned (.agg #[.int .i64 kd, .int .i64 nn, .string s0, .int .i64 a]) ∧ Below w.heap.size w w' := cT
  have hbl := P.lt
  replace cT := Lib.hid cT; replace cS := Lib.hid cS; replace hts := Lib.hid hts; replace hk6 := Lib.hid hk6; replace hsg := Lib.hid hsg; replace hq := Lib.hid hq
  have fin : ∀ W, Below w.heap.size w W → PS C b (W.setCell ⟨b, 1, none⟩ (.int .i64 ((i : Int) + 1))) (i + 1) nv ns ∧ PF b w nv (W.setCell ⟨b, 1, none⟩ (.int .i64 ((i : Int) + 1))) nv := fun W hW => by
    have e : ((i + 1 : Nat) : Int) = (i : Int) + 1 := by omega
    rw [← e]
    exact ⟨(P.below hW).setAt (by omega) (by omega), (PF.of nv hW (Nat.le_of_lt hbl)).set 1 _⟩
  replace fin := Lib.hid fin
  clear h
  show Calls Tryz.prog 137 #[.pointer (some ⟨b, 0, none⟩), .string s] w fun e w' => e = .returned (.int .i64 a) ∧ PS C b w' (i + 1) nv ns ∧ PF b w nv w' nv
  have hfd := fun W => tok_f3 kd nn s0 a W
  go_enter Tryz.func137, Tryz.ntmps137
  go_wp2_with (first | (go_at_call 140; (with_reducible refine (cT.out).mono ?_); rintro e w1 ⟨rfl, hb1⟩) | (go_at_call 135; (with_reducible refine (cS.out _ hb1).mono ?_); rintro e w2 ⟨rfl, hb2⟩; have hw2 := hb1.trans (hb2.mono hb1.size); have P2 := P.below hw2; obtain ⟨p_0, p_1, p_2, p_3, p_4, p_5, p_6⟩ := P2.row.box7p; have pf_1 := P2.wr.frz 1 (by omega); have hbl2 := P2.lt))
  go_returns
  exact ⟨rfl, fin.out w2 hw2⟩
set_option maxRecDepth 100000 in
set_option maxHeartbeats 4000000 in
theorem pword_c {C : PC} {b i : Nat} {w : World} {nv : Value} {ns : List ByteArray} (P : PS C b w i nv ns) (k : Int) (hk : k ≠ 0) (q : ByteArray × Nat) (h : wordP C.L C.E i k = some q) :
    Calls Tryz.prog 138 #[.pointer (some ⟨b, 0, none⟩), .int .i64 k] w fun e w' => e = .returned (.string q.1) ∧ PS C b w' q.2 nv ns ∧ PF b w nv w' nv := by
  unfold wordP at h
  split at h
  rotate_left
  · cases h
  rename_i hq
  obtain rfl := Option.some.inj h
  have hi := tokAt_kind (by rw [hq]; exact hk)
  have cT := tok_c P
  have hlen := P.ok.len
  generalize tokAt C.L C.E i = t at *
  obtain ⟨kd, nn, s0, a⟩ := t
  obtain rfl : kd = k := hq
  replace cT : Calls Tryz.prog 140 #[.pointer (some ⟨b, 0, none⟩)] w fun e w' => e = .returned (.agg #[.int .i64 kd, .int .i64 nn, .string s0, .int .i64 a]) ∧ Below w.heap.size w w' := cT
  have hbl := P.lt
  replace cT := Lib.hid cT
  have fin : ∀ W, Below w.heap.size w W → PS C b (W.setCell ⟨b, 1, none⟩ (.int .i64 ((i : Int) + 1))) (i + 1) nv ns ∧ PF b w nv (W.setCell ⟨b, 1, none⟩ (.int .i64 ((i : Int) + 1))) nv := fun W hW => by
    have e : ((i + 1 : Nat) : Int) = (i : Int) + 1 := by omega
    rw [← e]
    exact ⟨(P.below hW).setAt (by omega) (by omega), (PF.of nv hW (Nat.le_of_lt hbl)).set 1 _⟩
  replace fin := Lib.hid fin
  clear h
  show Calls Tryz.prog 138 #[.pointer (some ⟨b, 0, none⟩), .int .i64 kd] w fun e w' => e = .returned (.string s0) ∧ PS C b w' (i + 1) nv ns ∧ PF b w nv w' nv
  go_enter Tryz.func138, Tryz.ntmps138
  go_upto_region 2 with (go_at_call 140; (with_reducible refine (cT.out).mono ?_); rintro e w1 ⟨rfl, hb1⟩)
  obtain ⟨w2, hW2⟩ : ∃ W, W = w1.alloc (.cells #[.int .i64 kd, .int .i64 nn, .string s0, .int .i64 a] 181) := ⟨_, rfl⟩
  rw [← hW2]
  have hb2 : Below w1.heap.size w1 w2 := by rw [hW2]; go_grown
  have E2 : RowAt w2 w1.heap.size 0 [.int .i64 kd, .int .i64 nn, .string s0, .int .i64 a] := by rw [hW2]; exact RowAt.box w1 #[_, _, _, _] _
  clear hW2
  have hz1 := hb1.size
  have hw2 := hb1.trans (hb2.mono hz1)
  have P2 := P.below hw2
  obtain ⟨p_0, p_1, p_2, p_3, p_4, p_5, p_6⟩ := P2.row.box7p
  have pf_1 := P2.wr.frz 1 (by omega)
  have hbl2 := P2.lt
  obtain ⟨e2_0, e2_1, e2_2, e2_3⟩ := E2.box4; have hsE2 := World.block_lt_of_cell? _ _ e2_0; dsimp only at hsE2
  have hne : ¬ w1.heap.size = b := by omega
  go_wp2_with fail
  go_returns
  exact ⟨rfl, fin.out w2 hw2⟩
end Go.Proofs.YtaimekaagmcmnaaGreat

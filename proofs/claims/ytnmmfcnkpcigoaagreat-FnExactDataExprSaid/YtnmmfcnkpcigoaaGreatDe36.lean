/- Parts of the proof, merged: EvK. -/
import Derived.Test.YtnmmfcnkpcigoaaGreatDe35
/- Expressions by value: children that are gathered. -/
namespace Go.Proofs.YtnmmfcnkpcigoaaGreat
open Go.RowKit
set_option linter.unusedVariables false
set_option linter.unusedSimpArgs false
attribute [local go_sem] Ext.cell

theorem info_l03Sub : (Tryz.prog.info? 50).map (fun i => (i.zero, i.size, i.bytes)) = some (some (.agg #[.int .i64 0, .int .i64 0, .int .i64 0, .string ⟨#[]⟩, .slice none 0 0, .slice none 0 0, .slice none 0 0]), 7, 112) := by kernel_rfl
def KidsV (w : World) (base : Nat) (T : TypeId) (f : Nat) (rss : List (List Value)) (ts : List ExT) (v : Value) : Prop :=
  rss.length = ts.length ∧ (∀ r ∈ rss, r.length = 7) ∧ w.ownsRow base T 7 v ts.length rss.flatten ∧ ∀ (i : Nat) (r : List Value) (t : ExT), rss[i]? = some r → ts[i]? = some t → EV f (fun b => base ≤ b ∧ v.ownBlock ≠ some b) w r t
theorem KidsV.nil (w : World) (base : Nat) (T : TypeId) (f : Nat) : KidsV w base T f [] [] (.slice none 0 0) := ⟨rfl, fun r h => (by cases h), own_none, fun i p t (h : ([] : List (List Value))[i]? = some p) => by simp at h⟩
theorem KidsV.below {w w' : World} {base : Nat} {T : TypeId} {f : Nat} {rss : List (List Value)} {ts : List ExT} {v : Value} (h : KidsV w base T f rss ts v) (hb : Below w.heap.size w w') : KidsV w' base T f rss ts v :=
  ⟨h.1, h.2.1, own_below h.2.2.1 hb, fun i p t h1 h2 => (h.2.2.2 i p t h1 h2).below hb⟩
theorem KidsV.grow {w w1 w1' w2 : World} {base : Nat} {T : TypeId} {f : Nat} {rss : List (List Value)} {ts : List ExT} {v : Value} {p : List Value} {t : ExT} {g n cap : Nat} (h : KidsV w base T f rss ts v) (hbase : base ≤ w.heap.size) (hb : Below w.heap.size w w1) (hb1 : Below w1.heap.size w1 w1')
    (hp : EV f (fun b => w.heap.size ≤ b) w1 p t) (hp7 : p.length = 7) (hg : w1'.grownBy w2 v.ownBlock) (hown : w2.ownsRow base T 7 (.slice (some ⟨g, 0, none⟩) n cap) n (rss.flatten ++ p)) (hn : n = ts.length + 1) (hat : v.ownBlock = some g ∨ g = w1'.heap.size) :
    KidsV w2 base T f (rss ++ [p]) (ts ++ [t]) (.slice (some ⟨g, 0, none⟩) n cap) := by
  subst hn
  obtain ⟨h1, h7, h2, h3⟩ := h
  have ob := own_base h2
  have hs1 := hb.size
  have hs2 := hb1.size
  refine ⟨by simp [h1], fun r hr => ?_, by simpa using hown, fun i q u hq hu => ?_⟩
  · rcases List.mem_append.1 hr with h | h
    · exact h7 r h
    · simp at h; subst h; exact hp7
  by_cases e : i = ts.length
  · subst e
    rw [List.getElem?_append_right (by omega)] at hq hu
    have hq' : p = q := by simpa [h1] using hq
    have hu' : t = u := by simpa using hu
    subst hq' hu'
    have hp1 : EV f (fun b => w.heap.size ≤ b ∧ b < w1.heap.size) w1 p t := hp.to (Same.below (Below.refl _ _)) fun b h4 h5 => ⟨h4, h5⟩
    refine (hp1.below hb1).to (fun b h4 h5 => hg.block b h5 fun e => ?_) fun b h4 h5 => ⟨by omega, fun e => ?_⟩
    · have := (ob b e.symm).2
      omega
    · obtain rfl : g = b := by simpa [Value.ownBlock] using e
      rcases hat with h6 | h6
      · have := (ob g h6).2
        omega
      · omega
  · have hi : i < ts.length := by
      have := (List.getElem?_eq_some_iff.1 hu).1
      simp at this; omega
    rw [List.getElem?_append_left (by omega)] at hq hu
    have hp1 : EV f (fun b => (base ≤ b ∧ v.ownBlock ≠ some b) ∧ b < w.heap.size) w q u := (h3 i q u hq hu).to (Same.below (Below.refl _ _)) fun b h4 h5 => ⟨h4, h5⟩
    refine ((hp1.below hb).below hb1).to (fun b h4 h5 => hg.block b h5 fun e => h4.1.2 e.symm) fun b h4 h5 => ⟨h4.1.1, fun e => ?_⟩
    obtain rfl : g = b := by simpa [Value.ownBlock] using e
    rcases hat with h6 | h6
    · exact h4.1.2 h6
    · omega
theorem KidsV.form {w : World} {base : Nat} {T : TypeId} {f : Nat} {rss : List (List Value)} {ts : List ExT} {v : Value} (h : KidsV w base T f rss ts v) : ∃ a cap, v = .slice a ts.length cap := by
  rcases h.2.2.1.2 with ⟨rfl, h0⟩ | ⟨g, cap, cur, rfl, _⟩
  · exact ⟨none, 0, by rw [h0]⟩
  · exact ⟨_, cap, rfl⟩
/-- A node with such children. -/
theorem KidsV.tree {w : World} {base lo f : Nat} {T : TypeId} {rss : List (List Value)} {kd at_ nn : Int} {s : ByteArray} {ts : List ExT} {v : Value} (h : KidsV w base T f rss ts v) (hbase : lo ≤ base) (hwf : (ExT.mk kd at_ nn s ts []).wf) :
    EV (f + 1) (fun b => lo ≤ b) w [.int .i64 kd, .int .i64 at_, .int .i64 nn, .string s, .slice none 0 0, .slice none 0 0, v] (.mk kd at_ nn s ts []) := by
  by_cases h0 : 0 < ts.length
  · obtain ⟨g, cap, rfl, h1, h2, h3, h4, h5, h6⟩ := own_cells h.2.2.1 h0
    refine ⟨none, 0, 0, _, [], _, cap, rfl, hwf, SlO.nil, fun q hq => (by cases hq), h3, h4, fun _ => ⟨g, 0, rfl, by show lo ≤ g; omega, fun i k hk => ?_⟩⟩
    have hi := (List.getElem?_eq_some_iff.1 hk).1
    obtain ⟨r, hr⟩ : ∃ r, rss[i]? = some r := ⟨_, List.getElem?_eq_getElem (by rw [h.1]; exact hi)⟩
    exact ⟨r, fun j c hc => by have := h5 (i * 7 + j) c (flat_get h.2.1 hr hc); rw [Nat.zero_add] at this ⊢; exact this, (h.2.2.2 i r k hr hk).to (Same.below (Below.refl _ _)) fun b h _ => by omega⟩
  · obtain ⟨a, cap, rfl⟩ := h.form
    rcases h.2.2.1.2 with ⟨hv, _⟩ | ⟨g, cap', cur, hv, _, _, h5, h6, _⟩
    · injection hv with _ e1 e2
      subst e2
      exact ⟨none, 0, 0, _, [], a, 0, rfl, hwf, SlO.nil, fun q hq => (by cases hq), by show ts.length ≤ 0; omega, by omega, fun h => absurd h h0⟩
    · injection hv with _ e1 e2
      subst e2
      exact ⟨none, 0, 0, _, [], a, cap, rfl, hwf, SlO.nil, fun q hq => (by cases hq), h5, by unfold maxLen at h6; omega, fun h => absurd h h0⟩
theorem EV.leaf {f : Nat} {S : Nat → Prop} {w : World} {kd at_ nn : Int} {s : ByteArray} {a : Option Addr} {c : Nat} (hwf : (ExT.mk kd at_ nn s [] []).wf) (hc : c ≤ 9223372036854775807) :
    EV (f + 1) S w [.int .i64 kd, .int .i64 at_, .int .i64 nn, .string s, .slice none 0 0, .slice none 0 0, .slice a 0 c] (.mk kd at_ nn s [] []) :=
  ⟨none, 0, 0, _, [], a, c, rfl, hwf, SlO.nil, fun q hq => (by cases hq), Nat.zero_le _, hc, fun h => absurd h (by show ¬ 0 < ([] : List ExT).length; simp)⟩
theorem EV.two {f g c : Nat} {S : Nat → Prop} {w : World} {kd at_ nn : Int} {s : ByteArray} {q r : List Value} {t u : ExT} (hwf : (ExT.mk kd at_ nn s [t, u] []).wf) (hg : S g) (hc : 2 ≤ c ∧ c ≤ 9223372036854775807) (hq : RowAt w g 0 (q ++ r)) (hq7 : q.length = 7) (h : EV f S w q t) (h' : EV f S w r u) :
    EV (f + 1) S w [.int .i64 kd, .int .i64 at_, .int .i64 nn, .string s, .slice none 0 0, .slice none 0 0, .slice (some ⟨g, 0, none⟩) 2 c] (.mk kd at_ nn s [t, u] []) :=
  ⟨none, 0, 0, _, [], _, c, rfl, hwf, SlO.nil, fun q hq => (by cases hq), hc.1, hc.2, fun _ => ⟨g, 0, rfl, hg, fun i k hk => by
    match i, hk with
    | 0, hk =>
      simp [ExT.kids] at hk; subst hk
      exact ⟨q, fun j c hc => by have := hq j c (by rw [List.getElem?_append_left (List.getElem?_eq_some_iff.1 hc).1]; exact hc); simpa using this, h⟩
    | 1, hk =>
      simp [ExT.kids] at hk; subst hk
      exact ⟨r, fun j c hc => by have := hq (7 + j) c (by rw [List.getElem?_append_right (by omega), hq7, Nat.add_sub_cancel_left]; exact hc); simpa using this, h'⟩
    | i + 2, hk => simp [ExT.kids] at hk⟩⟩
theorem RowAt.box7 {w : World} {b : Nat} {a0 a1 a2 a3 a4 a5 a6 : Value} (h : RowAt w b 0 [a0, a1, a2, a3, a4, a5, a6]) : w.cell? ⟨b, 0, none⟩ = some a0 ∧ w.cell? ⟨b, 1, none⟩ = some a1 ∧ w.cell? ⟨b, 2, none⟩ = some a2 ∧ w.cell? ⟨b, 3, none⟩ = some a3 ∧ w.cell? ⟨b, 4, none⟩ = some a4 ∧ w.cell? ⟨b, 5, none⟩ = some a5 ∧ w.cell? ⟨b, 6, none⟩ = some a6 :=
  ⟨(Nat.zero_add 0) ▸ h 0 _ rfl, (Nat.zero_add 1) ▸ h 1 _ rfl, (Nat.zero_add 2) ▸ h 2 _ rfl, (Nat.zero_add 3) ▸ h 3 _ rfl, (Nat.zero_add 4) ▸ h 4 _ rfl, (Nat.zero_add 5) ▸ h 5 _ rfl, (Nat.zero_add 6) ▸ h 6 _ rfl⟩
theorem RowAt.cells7 {w : World} {b o : Nat} {a0 a1 a2 a3 a4 a5 a6 : Value} (h : RowAt w b o [a0, a1, a2, a3, a4, a5, a6]) : w.cell? ⟨b, o, none⟩ = some a0 ∧ w.cell? ⟨b, o + 1, none⟩ = some a1 ∧ w.cell? ⟨b, o + 2, none⟩ = some a2 ∧ w.cell? ⟨b, o + 3, none⟩ = some a3 ∧ w.cell? ⟨b, o + 4, none⟩ = some a4 ∧ w.cell? ⟨b, o + 5, none⟩ = some a5 ∧ w.cell? ⟨b, o + 6, none⟩ = some a6 :=
  ⟨h 0 _ rfl, h 1 _ rfl, h 2 _ rfl, h 3 _ rfl, h 4 _ rfl, h 5 _ rfl, h 6 _ rfl⟩
theorem EV.len {f : Nat} {S : Nat → Prop} {w : World} {r : List Value} {t : ExT} (h : EV f S w r t) : r.length = 7 := by
  obtain ⟨na, nn, nc, pa, pc, a, c, rfl⟩ := h.form
  rfl
end Go.Proofs.YtnmmfcnkpcigoaaGreat

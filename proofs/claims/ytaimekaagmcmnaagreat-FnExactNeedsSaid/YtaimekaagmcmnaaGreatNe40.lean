/- Parts of the proof, merged: Sd1, Sd2, LibNames2. -/
import Derived.Test.YtaimekaagmcmnaaGreatNe39
namespace Go.Proofs.YtaimekaagmcmnaaGreat
open Go.RowKit
set_option linter.unusedVariables false
set_option linter.unusedSimpArgs false
attribute [local go_sem] Ext.cell

structure GDef where
  name : ByteArray
  arg : ByteArray
  body : ByteArray
  uses : List ByteArray
  rec_ : Bool
def libDefs : List GDef := [⟨ln_id, ⟨#[120]⟩, ⟨#[120]⟩, [], false⟩,
  ⟨ln_both, ⟨#[102]⟩, ⟨#[102, 117, 110, 32, 112, 32, 45, 62, 32, 109, 97, 116, 99, 104, 32, 112, 32, 119, 105, 116, 104, 32, 40, 97, 44, 32, 98, 41, 32, 45, 62, 32, 102, 32, 97, 32, 98, 32, 101, 110, 100]⟩, [], false⟩,
  ⟨ln_not, ⟨#[98]⟩, ⟨#[105, 102, 32, 98, 32, 116, 104, 101, 110, 32, 102, 97, 108, 115, 101, 32, 101, 108, 115, 101, 32, 116, 114, 117, 101]⟩, [], false⟩,
  ⟨ln_abs, ⟨#[110]⟩, ⟨#[105, 102, 32, 110, 32, 60, 32, 48, 32, 116, 104, 101, 110, 32, 48, 32, 45, 32, 110, 32, 101, 108, 115, 101, 32, 110]⟩, [], false⟩,
  ⟨ln_len, ⟨#[108]⟩, ⟨#[109, 97, 116, 99, 104, 32, 108, 32, 119, 105, 116, 104, 32, 91, 93, 32, 45, 62, 32, 48, 32, 124, 32, 120, 32, 58, 58, 32, 114, 32, 45, 62, 32, 49, 32, 43, 32, 108, 101, 110, 32, 114, 32, 101, 110, 100]⟩, [], true⟩,
  ⟨ln_app, ⟨#[97]⟩, ⟨#[102, 117, 110, 32, 98, 32, 45, 62, 32, 109, 97, 116, 99, 104, 32, 97, 32, 119, 105, 116, 104, 32, 91, 93, 32, 45, 62, 32, 98, 32, 124, 32, 120, 32, 58, 58, 32, 114, 32, 45, 62, 32, 120, 32, 58, 58, 32, 97, 112, 112, 32, 114, 32, 98, 32, 101, 110, 100]⟩, [], true⟩,
  ⟨ln_rev, ⟨#[108]⟩, ⟨#[109, 97, 116, 99, 104, 32, 108, 32, 119, 105, 116, 104, 32, 91, 93, 32, 45, 62, 32, 91, 93, 32, 124, 32, 120, 32, 58, 58, 32, 114, 32, 45, 62, 32, 97, 112, 112, 32, 40, 114, 101, 118, 32, 114, 41, 32, 40, 120, 32, 58, 58, 32, 91, 93, 41, 32, 101, 110, 100]⟩, [ln_app], true⟩,
  ⟨ln_map, ⟨#[102]⟩, ⟨#[102, 117, 110, 32, 108, 32, 45, 62, 32, 109, 97, 116, 99, 104, 32, 108, 32, 119, 105, 116, 104, 32, 91, 93, 32, 45, 62, 32, 91, 93, 32, 124, 32, 120, 32, 58, 58, 32, 114, 32, 45, 62, 32, 102, 32, 120, 32, 58, 58, 32, 109, 97, 112, 32, 102, 32, 114, 32, 101, 110, 100]⟩, [], true⟩,
  ⟨ln_fold, ⟨#[102]⟩, ⟨#[102, 117, 110, 32, 97, 32, 45, 62, 32, 102, 117, 110, 32, 108, 32, 45, 62, 32, 109, 97, 116, 99, 104, 32, 108, 32, 119, 105, 116, 104, 32, 91, 93, 32, 45, 62, 32, 97, 32, 124, 32, 120, 32, 58, 58, 32, 114, 32, 45, 62, 32, 102, 111, 108, 100, 32, 102, 32, 40, 102, 32, 97, 32, 120, 41, 32, 114, 32, 101, 110, 100]⟩, [], true⟩,
  ⟨ln_sum, ⟨#[108]⟩, ⟨#[102, 111, 108, 100, 32, 40, 102, 117, 110, 32, 97, 32, 45, 62, 32, 102, 117, 110, 32, 98, 32, 45, 62, 32, 97, 32, 43, 32, 98, 41, 32, 48, 32, 108]⟩, [ln_fold], false⟩,
  ⟨ln_each, ⟨#[102]⟩, ⟨#[102, 117, 110, 32, 108, 32, 45, 62, 32, 109, 97, 116, 99, 104, 32, 108, 32, 119, 105, 116, 104, 32, 91, 93, 32, 45, 62, 32, 40, 41, 32, 124, 32, 120, 32, 58, 58, 32, 114, 32, 45, 62, 32, 102, 32, 120, 59, 32, 101, 97, 99, 104, 32, 102, 32, 114, 32, 101, 110, 100]⟩, [], true⟩,
  ⟨ln_upto, ⟨#[110]⟩, ⟨#[105, 102, 32, 110, 32, 60, 32, 49, 32, 116, 104, 101, 110, 32, 91, 93, 32, 101, 108, 115, 101, 32, 97, 112, 112, 32, 40, 117, 112, 116, 111, 32, 40, 110, 32, 45, 32, 49, 41, 41, 32, 40, 110, 32, 58, 58, 32, 91, 93, 41]⟩, [ln_app], true⟩,
  ⟨ln_shows, ⟨#[108]⟩, ⟨#[101, 97, 99, 104, 32, 112, 114, 105, 110, 116, 32, 108]⟩, [ln_each], false⟩]
theorem libDefs_names : libDefs.map (·.name) = libNames := rfl
theorem libDefs_ok : ∀ d ∈ libDefs, StrOk d.name ∧ StrOk d.arg ∧ StrOk d.body ∧ ∀ u ∈ d.uses, StrOk u := by
  intro d hd
  simp only [libDefs, List.mem_cons, List.not_mem_nil, or_false] at hd
  rcases hd with rfl | rfl | rfl | rfl | rfl | rfl | rfl | rfl | rfl | rfl | rfl | rfl | rfl <;> (refine ⟨?_, ?_, ?_, ?_⟩ <;> first | (unfold StrOk; decide) | (intro u hu; simp only [List.mem_cons, List.not_mem_nil, or_false] at hu; first | (exact absurd hu (by simp)) | (subst hu; unfold StrOk; decide)))
def DefAt (lo : Nat) (w : World) (b i : Nat) (d : GDef) : Prop := ∃ a c, RowAt w b (i * 5) [.string d.name, .string d.arg, .string d.body, .slice a d.uses.length c, .bool d.rec_] ∧ Sl StrR 1 lo w (.slice a d.uses.length c) d.uses
theorem DefAt.below {lo : Nat} {w w' : World} {b i : Nat} {d : GDef} (h : DefAt lo w b i d) (hb : Below w.heap.size w w') : DefAt lo w' b i d := let ⟨a, c, h1, h2⟩ := h; ⟨a, c, h1.below hb, h2.below StrR.good hb⟩
def DefsPost (w : World) (e : Ending) (w' : World) : Prop := ∃ b, e = .returned (.slice (some ⟨b, 0, none⟩) 13 13) ∧ w.heap.size ≤ b ∧ b < w'.heap.size ∧ (∀ i d, libDefs[i]? = some d → DefAt w.heap.size w' b i d) ∧ Below w.heap.size w w'
theorem rowAt_part5 {w : World} {b : Nat} {xs r : List Value} (h : RowAt w b 0 xs) (i : Nat) (hr : (xs.drop i).take 5 = r) : RowAt w b i r := fun j c hc => by
  rw [← hr, List.getElem?_take] at hc
  split at hc
  · rw [List.getElem?_drop] at hc
    have := h (i + j) c hc
    simpa using this
  · cases hc
theorem one_use {lo : Nat} {w : World} {b : Nat} {u : ByteArray} (h : w.cell? ⟨b, 0, none⟩ = some (.string u)) (hl : lo ≤ b) (hu : StrOk u) : Sl StrR 1 lo w (.slice (some ⟨b, 0, none⟩) 1 1) [u] :=
  ⟨_, 1, rfl, Nat.le_refl _, by decide, fun _ => ⟨b, 0, hl, rfl, fun i x hx => by
    match i, hx with
    | 0, hx =>
      obtain rfl : u = x := by simpa using hx
      refine ⟨[.string u], ⟨rfl, hu⟩, fun j c hc => ?_⟩
      match j, hc with
      | 0, hc => simp at hc; subst hc; simpa using h
      | j + 1, hc => simp at hc
    | i + 1, hx => simp at hx⟩⟩
theorem four_boxes (w : World) (a b c d : Value) (T : TypeId) : ∃ W, W = (((w.alloc (.cells #[a] T)).alloc (.cells #[b] T)).alloc (.cells #[c] T)).alloc (.cells #[d] T) ∧ W.cell? ⟨w.heap.size + 0, 0, none⟩ = some a ∧ W.cell? ⟨w.heap.size + 1, 0, none⟩ = some b ∧ W.cell? ⟨w.heap.size + 2, 0, none⟩ = some c ∧ W.cell? ⟨w.heap.size + 3, 0, none⟩ = some d := by
  have h1 := (RowAt.box w #[a] T).box1
  generalize h_1 : w.alloc (.cells #[a] T) = w1 at *
  have s1 : w1.heap.size = w.heap.size + 1 := by rw [← h_1]; simp
  have h2 := (RowAt.box w1 #[b] T).box1
  have b2 : Below w1.heap.size w1 (w1.alloc (.cells #[b] T)) := by go_grown
  generalize h_2 : w1.alloc (.cells #[b] T) = w2 at *
  have s2 : w2.heap.size = w1.heap.size + 1 := by rw [← h_2]; simp
  have h3 := (RowAt.box w2 #[c] T).box1
  have b3 : Below w2.heap.size w2 (w2.alloc (.cells #[c] T)) := by go_grown
  generalize h_3 : w2.alloc (.cells #[c] T) = w3 at *
  have s3 : w3.heap.size = w2.heap.size + 1 := by rw [← h_3]; simp
  have h4 := (RowAt.box w3 #[d] T).box1
  have b4 : Below w3.heap.size w3 (w3.alloc (.cells #[d] T)) := by go_grown
  generalize h_4 : w3.alloc (.cells #[d] T) = w4 at *
  have e1 : w1.heap.size = w.heap.size + 1 := s1
  have e2 : w2.heap.size = w.heap.size + 2 := by omega
  have e3 : w3.heap.size = w.heap.size + 3 := by omega
  rw [s1] at h2; rw [e2] at h3; rw [e3] at h4
  exact ⟨w4, rfl, cell_below b4 (cell_below b3 (cell_below b2 h1)), cell_below b4 (cell_below b3 h2), cell_below b4 h3, h4⟩
theorem no_use {lo : Nat} {w : World} : Sl StrR 1 lo w (.slice none 0 0) ([] : List ByteArray) := Sl.nil

def defCells (n : Nat) : List Value := [.string ln_id, .string ⟨#[120]⟩, .string ⟨#[120]⟩, .slice none 0 0, .bool false, .string ln_both, .string ⟨#[102]⟩, .string ⟨#[102, 117, 110, 32, 112, 32, 45, 62, 32, 109, 97, 116, 99, 104, 32, 112, 32, 119, 105, 116, 104, 32, 40, 97, 44, 32, 98, 41, 32, 45, 62, 32, 102, 32, 97, 32, 98, 32, 101, 110, 100]⟩, .slice none 0 0, .bool false, .string ln_not, .string ⟨#[98]⟩, .string ⟨#[105, 102, 32, 98, 32, 116, 104, 101, 110, 32, 102, 97, 108, 115, 101, 32, 101, 108, 115, 101, 32, 116, 114, 117, 101]⟩, .slice none 0 0, .bool false, .string ln_abs, .string ⟨#[110]⟩, .string ⟨#[105, 102, 32, 110, 32, 60, 32, 48, 32, 116, 104, 101, 110, 32, 48, 32, 45, 32, 110, 32, 101, 108, 115, 101, 32, 110]⟩, .slice none 0 0, .bool false, .string ln_len, .string ⟨#[108]⟩, .string ⟨#[109, 97, 116, 99, 104, 32, 108, 32, 119, 105, 116, 104, 32, 91, 93, 32, 45, 62, 32, 48, 32, 124, 32, 120, 32, 58, 58, 32, 114, 32, 45, 62, 32, 49, 32, 43, 32, 108, 101, 110, 32, 114, 32, 101, 110, 100]⟩, .slice none 0 0, .bool true, .string ln_app, .string ⟨#[97]⟩, .string ⟨#[102, 117, 110, 32, 98, 32, 45, 62, 32, 109, 97, 116, 99, 104, 32, 97, 32, 119, 105, 116, 104, 32, 91, 93, 32, 45, 62, 32, 98, 32, 124, 32, 120, 32, 58, 58, 32, 114, 32, 45, 62, 32, 120, 32, 58, 58, 32, 97, 112, 112, 32, 114, 32, 98, 32, 101, 110, 100]⟩, .slice none 0 0, .bool true, .string ln_rev, .string ⟨#[108]⟩, .string ⟨#[109, 97, 116, 99, 104, 32, 108, 32, 119, 105, 116, 104, 32, 91, 93, 32, 45, 62, 32, 91, 93, 32, 124, 32, 120, 32, 58, 58, 32, 114, 32, 45, 62, 32, 97, 112, 112, 32, 40, 114, 101, 118, 32, 114, 41, 32, 40, 120, 32, 58, 58, 32, 91, 93, 41, 32, 101, 110, 100]⟩, .slice (some ⟨n + 0, 0, none⟩) 1 1, .bool true, .string ln_map, .string ⟨#[102]⟩, .string ⟨#[102, 117, 110, 32, 108, 32, 45, 62, 32, 109, 97, 116, 99, 104, 32, 108, 32, 119, 105, 116, 104, 32, 91, 93, 32, 45, 62, 32, 91, 93, 32, 124, 32, 120, 32, 58, 58, 32, 114, 32, 45, 62, 32, 102, 32, 120, 32, 58, 58, 32, 109, 97, 112, 32, 102, 32, 114, 32, 101, 110, 100]⟩, .slice none 0 0, .bool true, .string ln_fold, .string ⟨#[102]⟩, .string ⟨#[102, 117, 110, 32, 97, 32, 45, 62, 32, 102, 117, 110, 32, 108, 32, 45, 62, 32, 109, 97, 116, 99, 104, 32, 108, 32, 119, 105, 116, 104, 32, 91, 93, 32, 45, 62, 32, 97, 32, 124, 32, 120, 32, 58, 58, 32, 114, 32, 45, 62, 32, 102, 111, 108, 100, 32, 102, 32, 40, 102, 32, 97, 32, 120, 41, 32, 114, 32, 101, 110, 100]⟩, .slice none 0 0, .bool true, .string ln_sum, .string ⟨#[108]⟩, .string ⟨#[102, 111, 108, 100, 32, 40, 102, 117, 110, 32, 97, 32, 45, 62, 32, 102, 117, 110, 32, 98, 32, 45, 62, 32, 97, 32, 43, 32, 98, 41, 32, 48, 32, 108]⟩, .slice (some ⟨n + 1, 0, none⟩) 1 1, .bool false, .string ln_each, .string ⟨#[102]⟩, .string ⟨#[102, 117, 110, 32, 108, 32, 45, 62, 32, 109, 97, 116, 99, 104, 32, 108, 32, 119, 105, 116, 104, 32, 91, 93, 32, 45, 62, 32, 40, 41, 32, 124, 32, 120, 32, 58, 58, 32, 114, 32, 45, 62, 32, 102, 32, 120, 59, 32, 101, 97, 99, 104, 32, 102, 32, 114, 32, 101, 110, 100]⟩, .slice none 0 0, .bool true, .string ln_upto, .string ⟨#[110]⟩, .string ⟨#[105, 102, 32, 110, 32, 60, 32, 49, 32, 116, 104, 101, 110, 32, 91, 93, 32, 101, 108, 115, 101, 32, 97, 112, 112, 32, 40, 117, 112, 116, 111, 32, 40, 110, 32, 45, 32, 49, 41, 41, 32, 40, 110, 32, 58, 58, 32, 91, 93, 41]⟩, .slice (some ⟨n + 2, 0, none⟩) 1 1, .bool true, .string ln_shows, .string ⟨#[108]⟩, .string ⟨#[101, 97, 99, 104, 32, 112, 114, 105, 110, 116, 32, 108]⟩, .slice (some ⟨n + 3, 0, none⟩) 1 1, .bool false]
set_option maxRecDepth 100000 in
set_option maxHeartbeats 4000000 in
theorem l22DefsF_c (w : World) : Calls Tryz.prog 38 #[] w (DefsPost w) := by
  go_enter Tryz.func38, Tryz.ntmps38
  go_wp2
  go_returns
  generalize hw : (((w.alloc _).alloc _).alloc _).alloc _ = w4
  have hb4 : Below w.heap.size w w4 := by rw [← hw]; go_grown
  have hz4 : w4.heap.size = w.heap.size + 4 := by rw [← hw]; simp
  obtain ⟨W, hW, u0, u1, u2, u3⟩ := four_boxes w (.string ln_app) (.string ln_fold) (.string ln_app) (.string ln_each) 9
  obtain rfl : W = w4 := hW.trans hw
  clear hW hw
  have hrow := RowAt.box W (defCells w.heap.size).toArray 79
  have hb5 : Below W.heap.size W (W.alloc (.cells (defCells w.heap.size).toArray 79)) := by go_grown
  rw [show (defCells w.heap.size).toArray.toList = defCells w.heap.size from rfl] at hrow
  refine ⟨W.heap.size, ?_, by omega, ?_, fun i d hd => ?_, ?_⟩
  · rw [hz4]; rfl
  · show W.heap.size < (W.alloc _).heap.size; simp
  · show DefAt w.heap.size (W.alloc (.cells (defCells w.heap.size).toArray 79)) W.heap.size i d
    have hi : i < 13 := (List.getElem?_eq_some_iff.1 hd).1
    match i, hi, hd with
    | 0, _, hd => obtain rfl := Option.some.inj hd; exact ⟨_, _, rowAt_part5 hrow (0 * 5) rfl, no_use⟩
    | 1, _, hd => obtain rfl := Option.some.inj hd; exact ⟨_, _, rowAt_part5 hrow (1 * 5) rfl, no_use⟩
    | 2, _, hd => obtain rfl := Option.some.inj hd; exact ⟨_, _, rowAt_part5 hrow (2 * 5) rfl, no_use⟩
    | 3, _, hd => obtain rfl := Option.some.inj hd; exact ⟨_, _, rowAt_part5 hrow (3 * 5) rfl, no_use⟩
    | 4, _, hd => obtain rfl := Option.some.inj hd; exact ⟨_, _, rowAt_part5 hrow (4 * 5) rfl, no_use⟩
    | 5, _, hd => obtain rfl := Option.some.inj hd; exact ⟨_, _, rowAt_part5 hrow (5 * 5) rfl, no_use⟩
    | 6, _, hd => obtain rfl := Option.some.inj hd; exact ⟨_, _, rowAt_part5 hrow (6 * 5) rfl, (one_use (cell_below hb5 u0) (by omega) (by unfold StrOk; decide))⟩
    | 7, _, hd => obtain rfl := Option.some.inj hd; exact ⟨_, _, rowAt_part5 hrow (7 * 5) rfl, no_use⟩
    | 8, _, hd => obtain rfl := Option.some.inj hd; exact ⟨_, _, rowAt_part5 hrow (8 * 5) rfl, no_use⟩
    | 9, _, hd => obtain rfl := Option.some.inj hd; exact ⟨_, _, rowAt_part5 hrow (9 * 5) rfl, (one_use (cell_below hb5 u1) (by omega) (by unfold StrOk; decide))⟩
    | 10, _, hd => obtain rfl := Option.some.inj hd; exact ⟨_, _, rowAt_part5 hrow (10 * 5) rfl, no_use⟩
    | 11, _, hd => obtain rfl := Option.some.inj hd; exact ⟨_, _, rowAt_part5 hrow (11 * 5) rfl, (one_use (cell_below hb5 u2) (by omega) (by unfold StrOk; decide))⟩
    | 12, _, hd => obtain rfl := Option.some.inj hd; exact ⟨_, _, rowAt_part5 hrow (12 * 5) rfl, (one_use (cell_below hb5 u3) (by omega) (by unfold StrOk; decide))⟩
  · exact hb4.trans (hb5.mono (by omega))
theorem anyS_mem2 {l : List ByteArray} {n : ByteArray} : anyS l n = true ↔ n ∈ l := by
  unfold anyS
  rw [List.any_eq_true]
  constructor
  · rintro ⟨y, hy, h⟩; rw [eqS_iff.1 h]; exact hy
  · intro h; exact ⟨n, h, eqS_iff.2 rfl⟩
theorem anyS_no {l : List ByteArray} {n : ByteArray} : anyS l n = false ↔ n ∉ l := by rw [← Bool.not_eq_true, anyS_mem2]
set_option maxRecDepth 100000 in
set_option maxHeartbeats 4000000 in
theorem l22Has_c (xs : List ByteArray) (s : ByteArray) (lo : Nat) (u : Value) (w : World) (hu : Sl StrR 1 lo w u xs) :
    Calls Tryz.prog 40 #[u, .string s] w fun e w' => e = .returned (.bool (anyS xs s)) ∧ Below w.heap.size w w' := by
  obtain ⟨ua, uc, rfl, ul, um, h0⟩ := hu
  obtain ⟨m, hm⟩ : ∃ m, m = xs.length := ⟨_, rfl⟩
  rw [← hm] at ul ⊢
  have htrue : ∀ x ∈ xs, eqS x s = true → anyS xs s = true := fun x hx h => anyS_mem2.2 (by rw [← eqS_iff.1 h]; exact hx)
  have hfalse : (∀ x ∈ xs, eqS x s = false) → anyS xs s = false := fun h => anyS_no.2 fun hx => by have := h s hx; rw [eqS_iff.2 rfl] at this; cases this
  generalize anyS xs s = res at *
  replace hm := Lib.hid hm; replace h0 := Lib.hid h0; replace htrue := Lib.hid htrue; replace hfalse := Lib.hid hfalse
  go_enter Tryz.func40, Tryz.ntmps40
  go_wp2_with fail
  go_loopw [9] (fun i wr => ∃ k : Nat, k ≤ m ∧ i = .int .i64 k ∧ wr = w ∧ Hid (∀ y ∈ xs.take k, eqS y s = false)) (fun i _ => m - (intOf i).toNat)
  case atStart => exact ⟨0, by omega, rfl, rfl, fun y hy => by simp at hy⟩
  case round =>
    obtain ⟨k, hk, rfl, rfl, hF⟩ := hrel
    by_cases hlt : k < m
    · obtain ⟨b1, o1, x, r, _, rfl, P1, ⟨rfl, hxs⟩, r1⟩ := (h0.out).get hm hlt
      have e_0 : wr.cell? ⟨b1, o1 + k, none⟩ = some (.string x) := by simpa using r1 0 _ rfl
      have hbb1 := World.block_lt_of_cell? _ _ e_0; dsimp only at hbb1
      have hx := List.mem_of_getElem? P1.out
      have htk : xs.take (k + 1) = xs.take k ++ [x] := by rw [List.take_add_one, P1.out]; rfl
      have c1 : (x.toList == s.toList) = eqS x s := eqS_list x s
      clear r1
      generalize hq : eqS x s = q at *
      replace hq := Lib.hid hq; replace htk := Lib.hid htk; replace hx := Lib.hid hx; replace P1 := Lib.hid P1.out
      cases q
      · go_wp2_with fail
        go_roundw
        case rel => exact ⟨k + 1, by omega, by go_num, by first | rfl | trivial, by
          show ∀ y ∈ xs.take (k + 1), eqS y s = false
          rw [htk.out]
          intro y hy
          rcases List.mem_append.1 hy with h | h
          · exact hF.out y h
          · simp only [List.mem_singleton] at h; subst h; exact hq.out⟩
        case measure => simp [intOf]; omega
      · have hr := htrue.out x hx.out hq.out
        subst hr
        go_wp2_with fail
        go_returns
        exact ⟨rfl, Below.refl _ _⟩
    · obtain rfl : k = m := by omega
      have hr := hfalse.out (by have hF := hF.out; rw [List.take_of_length_le (by have := hm.out; omega)] at hF; exact hF)
      subst hr
      go_wp2_with fail
      go_returns
      exact ⟨rfl, Below.refl _ _⟩

/-! Plain: what is missing; a pass. -/
def missL (all l : List ByteArray) : Nat := (l.filter fun n => !anyS all n).length
def missing (all : List ByteArray) : Nat := missL all libNames
theorem anyS_snoc (l : List ByteArray) (u n : ByteArray) : anyS (l ++ [u]) n = (anyS l n || eqS n u) := by unfold anyS; rw [List.any_append]; simp
theorem missL_le (all : List ByteArray) (u : ByteArray) : ∀ l, missL (all ++ [u]) l ≤ missL all l
  | [] => Nat.le_refl _
  | n :: l => by
    have ih := missL_le all u l
    unfold missL at ih ⊢
    rw [List.filter_cons, List.filter_cons, anyS_snoc]
    cases anyS all n <;> cases eqS n u <;> simp <;> omega
theorem missL_lt {all : List ByteArray} {u : ByteArray} (hu : u ∉ all) : ∀ l, u ∈ l → missL (all ++ [u]) l < missL all l
  | [], h => by cases h
  | n :: l, h => by
    have hle := missL_le all u l
    rcases List.mem_cons.1 h with rfl | h
    · unfold missL at hle ⊢
      rw [List.filter_cons, List.filter_cons, anyS_snoc, anyS_no.2 hu, eqS_iff.2 rfl]
      simp; omega
    · have ih := missL_lt hu l h
      unfold missL at ih ⊢
      rw [List.filter_cons, List.filter_cons, anyS_snoc]
      cases anyS all n <;> cases eqS n u <;> simp <;> omega
theorem missing_le13 (all : List ByteArray) : missing all ≤ 13 := List.length_filter_le _ _
structure Pass (names all0 all : List ByteArray) (ag : Bool) : Prop where
  sup : ∀ n ∈ all0, n ∈ all
  sound : ∀ n ∈ all, Rch names n
  yes : ag = true → missing all < missing all0
  no : ag = false → all = all0
  ok : ∀ n ∈ all, StrOk n
  bnd : all.length + missing all ≤ names.length + 13
theorem Pass.miss {names all0 all : List ByteArray} {ag : Bool} (h : Pass names all0 all ag) : missing all ≤ missing all0 := by
  cases ag with
  | true => exact Nat.le_of_lt (h.yes rfl)
  | false => rw [h.no rfl]; exact Nat.le_refl _
theorem Pass.add {names all0 all : List ByteArray} {ag : Bool} (h : Pass names all0 all ag) {d u : ByteArray} (hd : d ∈ all) (hl : isLib d) (hu : u ∈ usesT d) (hul : u ∈ libNames) (huo : StrOk u) (hn : u ∉ all) : Pass names all0 (all ++ [u]) true := by
  have hlt : missing (all ++ [u]) < missing all := missL_lt hn libNames hul
  have hm := h.miss
  have hb := h.bnd
  refine ⟨fun n hn => by rw [List.mem_append]; exact .inl (h.sup n hn), fun n hn => ?_, fun _ => (by omega), fun h => (by cases h), fun n hn => ?_, by rw [List.length_append, List.length_singleton]; omega⟩
  · rcases List.mem_append.1 hn with h1 | h1
    · exact h.sound n h1
    · simp only [List.mem_singleton] at h1; subst h1; exact .step (h.sound d hd) hl hu
  · rcases List.mem_append.1 hn with h1 | h1
    · exact h.ok n h1
    · simp only [List.mem_singleton] at h1; subst h1; exact huo
def Shut (all : List ByteArray) (k m : Nat) : Prop := (∀ i d, i < k → libDefs[i]? = some d → d.name ∈ all → ∀ u ∈ d.uses, u ∈ all) ∧ ∀ d, libDefs[k]? = some d → d.name ∈ all → ∀ j u, j < m → d.uses[j]? = some u → u ∈ all
theorem Shut.next {all : List ByteArray} {k m : Nat} {d : GDef} {u : ByteArray} (h : Shut all k m) (hd : libDefs[k]? = some d) (hu : d.uses[m]? = some u) (hs : d.name ∈ all → u ∈ all) : Shut all k (m + 1) := by
  refine ⟨h.1, fun d' hd' hm j u' hj hu' => ?_⟩
  rw [hd] at hd'
  obtain rfl := Option.some.inj hd'
  rcases Nat.lt_or_ge j m with h1 | h1
  · exact h.2 d hd hm j u' h1 hu'
  · obtain rfl : j = m := by omega
    rw [hu] at hu'
    obtain rfl := Option.some.inj hu'
    exact hs hm
theorem Shut.up {all : List ByteArray} {k : Nat} {d : GDef} (hd : libDefs[k]? = some d) (h : Shut all k d.uses.length) : Shut all (k + 1) 0 := by
  refine ⟨fun i d' hi hd' hm u hu => ?_, fun d' _ _ j u hj => by omega⟩
  rcases Nat.lt_or_ge i k with h1 | h1
  · exact h.1 i d' h1 hd' hm u hu
  · obtain rfl : i = k := by omega
    rw [hd] at hd'
    obtain rfl := Option.some.inj hd'
    obtain ⟨j, hj, rfl⟩ := List.getElem_of_mem hu
    exact h.2 d hd hm j _ hj (List.getElem?_eq_getElem hj)
theorem uses_eq : ∀ d ∈ libDefs, usesT d.name = d.uses := by
  intro d hd
  simp only [libDefs, List.mem_cons, List.not_mem_nil, or_false] at hd
  rcases hd with rfl | rfl | rfl | rfl | rfl | rfl | rfl | rfl | rfl | rfl | rfl | rfl | rfl <;> kernel_rfl
theorem defs_lib {d : GDef} (hd : d ∈ libDefs) : d.name ∈ libNames := by rw [← libDefs_names]; exact List.mem_map_of_mem hd
theorem defs_uses_lib : ∀ d ∈ libDefs, ∀ u ∈ d.uses, u ∈ libNames := by
  intro d hd u hu
  rw [← uses_eq d hd] at hu
  unfold usesT at hu
  split at hu
  · exact (List.mem_filter.1 hu).1
  · cases hu
theorem shut_end {names all : List ByteArray} (hs : Shut all 13 0) (hn : ∀ n ∈ names, n ∈ all) (hr : ∀ n ∈ all, Rch names n) (n : ByteArray) : n ∈ all ↔ Rch names n := by
  refine ⟨hr n, fun h => ?_⟩
  induction h with
  | base hb => exact hn _ hb
  | step h hl hu ih =>
    have hm := lib_mem hl
    rw [← libDefs_names] at hm
    obtain ⟨d, hd, rfl⟩ := List.mem_map.1 hm
    rw [uses_eq d hd] at hu
    obtain ⟨i, hi, rfl⟩ := List.getElem_of_mem hd
    exact hs.1 i _ hi (List.getElem?_eq_getElem hi) ih _ hu
def nameVals (k : Nat) : List Value := (libNames.take k).map Value.string
theorem nameVals_step {k : Nat} {x : ByteArray} (h : libNames[k]? = some x) : nameVals (k + 1) = nameVals k ++ [.string x] := by unfold nameVals; rw [take_snoc' h]; simp

theorem DefRow.kept {S : Nat → Prop} {w w' : World} {b i : Nat} {x : ByteArray} (h : DefRow w b i x) (hk : Kept S w w') (hb : b < w.heap.size) (hS : ¬ S b) : DefRow w' b i x := by
  obtain ⟨s0, s1, a, n, c, d, hr⟩ := h
  exact ⟨s0, s1, a, n, c, d, fun j u hu => by rw [World.cell?_of_block (w := w) (a := ⟨b, i * 5 + j, none⟩) (hk b hb hS)]; exact hr j u hu⟩

set_option maxHeartbeats 1000000 in
set_option maxRecDepth 100000 in
theorem spec_LibNames_c (w : World) :
    Calls Tryz.prog 16 #[] w fun e w' => ∃ v, e = .returned v ∧ w'.ownsRow w.heap.size 9 1 v 13 (libNames.map Value.string) ∧ Below w.heap.size w w' := by
  obtain ⟨i0, hi, hi0, hi1, hi2⟩ := info_parts info_StrLn
  have I := Lib.hid hi; have I0 := Lib.hid hi0; have I1 := Lib.hid hi1; have I2 := Lib.hid hi2
  clear hi hi0 hi1 hi2
  go_enter Tryz.func16, Tryz.ntmps16
  go_wp2_with (go_at_call 38; refine (l22Defs_c _).mono ?_; rintro e w1 ⟨b, rfl, hb0, hb1, hD, hb⟩)
  have O := own_below (own_new w #[] 9 1 0 rfl (by decide) w.heap.size (Nat.le_refl _)) hb
  have hw : Below w.heap.size w w1 := Below.trans (by go_grown) (hb.mono (by go_grown))
  have hz : w.heap.size < w1.heap.size := by have := hb.size; simp only [World.size_alloc] at this; omega
  clear hb
  go_loopw [1, 7] (fun o i wr => ∃ k : Nat, k ≤ 13 ∧ i = .int .i64 k ∧ wr.ownsRow w.heap.size 9 1 o k (nameVals k) ∧ (∀ g, o.ownBlock = some g → g ≠ b) ∧ (∀ i x, libNames[i]? = some x → DefRow wr b i x) ∧ b < wr.heap.size ∧ Below w.heap.size w wr) (fun _ i _ => 13 - (intOf i).toNat)
  case atStart => exact ⟨0, by omega, rfl, O, fun g hg => by simp [Value.ownBlock] at hg; simp only [World.size_alloc] at hb0; omega, hD, hb1, hw⟩
  case round =>
    clear O hw hz hD hb1
    obtain ⟨k, hk, rfl, O, hne, hD, hb1, hw⟩ := hrel
    have hz := hw.size
    by_cases hlt : k < 13
    · obtain ⟨x, hx⟩ : ∃ x, libNames[k]? = some x := ⟨libNames[k]'hlt, List.getElem?_eq_getElem hlt⟩
      replace hx := Lib.hid hx
      obtain ⟨s0, s1, da, dn, dc, dd, hr⟩ := hD k x hx.out
      obtain ⟨e0, e1, e2, e3, e4⟩ : wr.cell? ⟨b, k * 5, none⟩ = some (.string x) ∧ wr.cell? ⟨b, k * 5 + 1, none⟩ = some (.string s0) ∧ wr.cell? ⟨b, k * 5 + 2, none⟩ = some (.string s1) ∧ wr.cell? ⟨b, k * 5 + 3, none⟩ = some (.slice da dn dc) ∧ wr.cell? ⟨b, k * 5 + 4, none⟩ = some (.bool dd) := ⟨hr 0 _ rfl, hr 1 _ rfl, hr 2 _ rfl, hr 3 _ rfl, hr 4 _ rfl⟩
      clear hr
      replace hD := Lib.hid hD; replace O := Lib.hid O; replace hne := Lib.hid hne
      go_wp2_with (at_builtin; refine wpList_append_lies _ rfl _ _ _ rfl w.heap.size 9 i0 _ 1 16 Tryz.underlying27 I.out I0.out I1.out I2.out rfl (by omega) u1 k (nameVals k) rfl (own_below O.out (by go_grown)) ⟨wr.heap.size + 1, 0, none⟩ 1 1 [.string x] rfl rfl (World.news_of_block (cs := #[.string x]) (t := 9) (fr := (0, 0)) (heap_alloc_new' _ _ _ (by simp))) (by intro u hu; simp at hu; subst hu; rfl) (by omega) (by unfold maxLen; omega) (by omega) (by simp; omega) _ rfl ?_; intro g cap w2 hown hgrow hat hlt2)
      have hk2 := kept_of hgrow (w := wr) (by go_grown)
      have hw2 := below_grown2 (wr := wr) hgrow (by go_grown) hw hz O.out
      have hz2 := hgrow.size
      simp only [World.size_alloc] at hz2 hat
      go_roundw
      case rel =>
        refine ⟨k + 1, by omega, by go_num, by rw [nameVals_step hx.out]; exact hown, fun g' hg' => ?_, fun i y hy => (hD.out i y hy).kept hk2 hb1 (fun e => hne.out b e.symm rfl), by omega, hw2⟩
        obtain rfl : g = g' := by simpa [Value.ownBlock] using hg'
        rcases hat with h | h
        · exact hne.out g h
        · omega
      case measure => simp [intOf]; omega
    · obtain rfl : k = 13 := by omega
      replace hD := Lib.hid hD; replace O := Lib.hid O; replace hne := Lib.hid hne
      go_wp2
      go_returns
      exact ⟨_, rfl, O.out, hw⟩

end Go.Proofs.YtaimekaagmcmnaaGreat

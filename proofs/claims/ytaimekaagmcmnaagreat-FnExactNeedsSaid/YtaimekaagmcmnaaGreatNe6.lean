/- Parts of the proof, merged: Tree, Name, Name2. -/
import Derived.Test.YtaimekaagmcmnaaGreatNe5
/- Trees of patterns and values behind pointers: how they read. -/
namespace Go.Proofs.YtaimekaagmcmnaaGreat
open Go.RowKit
set_option linter.unusedVariables false
set_option linter.unusedSimpArgs false

inductive PxT where
  | mk (kind n : Int) (s : ByteArray) (kids : List PxT)
def PxT.kind : PxT → Int | .mk k _ _ _ => k
def PxT.n : PxT → Int | .mk _ n _ _ => n
def PxT.s : PxT → ByteArray | .mk _ _ s _ => s
def PxT.kids : PxT → List PxT | .mk _ _ _ ks => ks
def PxT.wf (t : PxT) : Prop := I64 t.kind ∧ I64 t.n ∧ StrOk t.s

def PxR : Nat → (Nat → Prop) → World → Value → PxT → Prop
  | 0, _, _, _, _ => False
  | f + 1, S, w, v, t => ∃ b a cap, v = .pointer (some ⟨b, 0, none⟩) ∧ S b ∧ t.wf ∧ RowAt w b 0 [.int .i64 t.kind, .int .i64 t.n, .string t.s, .slice a t.kids.length cap] ∧ t.kids.length ≤ cap ∧ cap ≤ 9223372036854775807 ∧
      (0 < t.kids.length → ∃ g off, a = some ⟨g, off, none⟩ ∧ S g ∧ ∀ i k, t.kids[i]? = some k → ∃ p, w.cell? ⟨g, off + i, none⟩ = some p ∧ PxR f S w p k)

def Same (S : Nat → Prop) (w w' : World) : Prop := ∀ b, S b → b < w.heap.size → w'.heap[b]? = w.heap[b]?
theorem Same.cell {S : Nat → Prop} {w w' : World} (h : Same S w w') {b o : Nat} {v : Value} (hS : S b) (hc : w.cell? ⟨b, o, none⟩ = some v) : w'.cell? ⟨b, o, none⟩ = some v := by
  rw [World.cell?_of_block (w := w) (a := ⟨b, o, none⟩) (h b hS (World.block_lt_of_cell? w _ hc)), hc]
theorem Same.below {S : Nat → Prop} {w w' : World} (h : Below w.heap.size w w') : Same S w w' := fun b _ hb => h.block b hb

theorem PxR.to : ∀ {f : Nat} {S S' : Nat → Prop} {w w' : World} {v : Value} {t : PxT}, PxR f S w v t → Same S w w' → (∀ b, S b → b < w.heap.size → S' b) → PxR f S' w' v t
  | 0, _, _, _, _, _, _, h, _, _ => h
  | f + 1, S, S', w, w', v, t, ⟨b, a, cap, hv, hS, hwf, hr, h1, h2, h3⟩, hs, hi =>
    ⟨b, a, cap, hv, hi b hS (World.block_lt_of_cell? w _ (hr 0 _ rfl)), hwf, fun j c hc => hs.cell hS (hr j c hc), h1, h2, fun h0 =>
      let ⟨g, off, ha, hg, hk⟩ := h3 h0
      ⟨g, off, ha, by
        obtain ⟨k, hk0⟩ : ∃ k, t.kids[0]? = some k := ⟨_, List.getElem?_eq_getElem h0⟩
        obtain ⟨p, hp, _⟩ := hk 0 k hk0
        exact hi g hg (World.block_lt_of_cell? w _ hp), fun i k hik =>
          let ⟨p, hp, hR⟩ := hk i k hik
          ⟨p, hs.cell hg hp, hR.to hs hi⟩⟩⟩
theorem PxR.below {f : Nat} {S : Nat → Prop} {w w' : World} {v : Value} {t : PxT} (h : PxR f S w v t) (hb : Below w.heap.size w w') : PxR f S w' v t := h.to (Same.below hb) fun _ h _ => h
theorem PxR.form {f : Nat} {S : Nat → Prop} {w : World} {v : Value} {t : PxT} (h : PxR f S w v t) : ∃ b, v = .pointer (some ⟨b, 0, none⟩) := by
  cases f with
  | zero => exact absurd h (by simp [PxR])
  | succ f => obtain ⟨b, _, _, hv, _⟩ := h; exact ⟨b, hv⟩

theorem conShape_le {s : ByteArray} {k : Int} {pb : Bool} (h : conShape s k pb = true) : k ≤ 1 := by
  unfold conShape at h
  split at h
  · simp at h; omega
  · split at h
    · simp at h; omega
    · simp at h; omega
def KidsOwn (w : World) (base : Nat) (T : TypeId) (f : Nat) (vs : List Value) (ts : List PxT) (v : Value) : Prop :=
  vs.length = ts.length ∧ w.ownsRow base T 1 v ts.length vs ∧ ∀ (i : Nat) (p : Value) (t : PxT), vs[i]? = some p → ts[i]? = some t → PxR f (fun b => base ≤ b ∧ v.ownBlock ≠ some b) w p t
theorem KidsOwn.nil (w : World) (base : Nat) (T : TypeId) (f : Nat) : KidsOwn w base T f [] [] (.slice none 0 0) := ⟨rfl, own_none, fun i p t (h : ([] : List Value)[i]? = some p) => by simp at h⟩
theorem KidsOwn.below {w w' : World} {base : Nat} {T : TypeId} {f : Nat} {vs : List Value} {ts : List PxT} {v : Value} (h : KidsOwn w base T f vs ts v) (hb : Below w.heap.size w w') : KidsOwn w' base T f vs ts v :=
  ⟨h.1, own_below h.2.1 hb, fun i p t h1 h2 => (h.2.2 i p t h1 h2).below hb⟩
theorem KidsOwn.grow {w w1 w1' w2 : World} {base : Nat} {T : TypeId} {f : Nat} {vs : List Value} {ts : List PxT} {v p : Value} {t : PxT} {g n cap : Nat} (h : KidsOwn w base T f vs ts v) (hbase : base ≤ w.heap.size) (hb : Below w.heap.size w w1) (hb1 : Below w1.heap.size w1 w1')
    (hp : PxR f (fun b => w.heap.size ≤ b) w1 p t) (hg : w1'.grownBy w2 v.ownBlock) (hown : w2.ownsRow base T 1 (.slice (some ⟨g, 0, none⟩) n cap) n (vs ++ [p])) (hn : n = ts.length + 1) (hat : v.ownBlock = some g ∨ g = w1'.heap.size) :
    KidsOwn w2 base T f (vs ++ [p]) (ts ++ [t]) (.slice (some ⟨g, 0, none⟩) n cap) := by
  subst hn
  obtain ⟨h1, h2, h3⟩ := h
  have ob := own_base h2
  have hs1 := hb.size
  have hs2 := hb1.size
  refine ⟨by simp [h1], by simpa using hown, fun i q u hq hu => ?_⟩
  by_cases e : i = ts.length
  · subst e
    rw [List.getElem?_append_right (by omega)] at hq hu
    have hq' : p = q := by simpa [h1] using hq
    have hu' : t = u := by simpa using hu
    subst hq' hu'
    have hp1 : PxR f (fun b => w.heap.size ≤ b ∧ b < w1.heap.size) w1 p t := hp.to (Same.below (Below.refl _ _)) fun b h4 h5 => ⟨h4, h5⟩
    refine (hp1.below hb1).to (fun b h4 h5 => hg.block b h5 fun e => ?_) fun b h4 h5 => ⟨by omega, fun e => ?_⟩
    · have := (ob b e.symm).2
      omega
    · obtain rfl : g = b := by simpa [Value.ownBlock] using e
      rcases hat with h6 | h6
      · have := (ob g h6).2
        omega
      · omega
  · have hi : i < ts.length := by
      have := (List.getElem?_eq_some_iff.1 hu).1
      simp at this; omega
    rw [List.getElem?_append_left (by omega)] at hq hu
    have hp1 : PxR f (fun b => (base ≤ b ∧ v.ownBlock ≠ some b) ∧ b < w.heap.size) w q u := (h3 i q u hq hu).to (Same.below (Below.refl _ _)) fun b h4 h5 => ⟨h4, h5⟩
    refine ((hp1.below hb).below hb1).to (fun b h4 h5 => hg.block b h5 fun e => h4.1.2 e.symm) fun b h4 h5 => ⟨h4.1.1, fun e => ?_⟩
    obtain rfl : g = b := by simpa [Value.ownBlock] using e
    rcases hat with h6 | h6
    · exact h4.1.2 h6
    · omega
theorem KidsOwn.set {w : World} {base : Nat} {T : TypeId} {f : Nat} {vs : List Value} {ts : List PxT} {v : Value} (h : KidsOwn w base T f vs ts v) {b o : Nat} (hb : b < base) (u : Value) : KidsOwn (w.setCell ⟨b, o, none⟩ u) base T f vs ts v :=
  ⟨h.1, own_kept (S := fun k => k = b) h.2.1 ((Kept.refl (fun k => k = b) w).set (p := ⟨b, o, none⟩) rfl u) (fun g hg e => by have := (own_base h.2.1 g hg).1; omega), fun i p t h1 h2 =>
    (h.2.2 i p t h1 h2).to (fun k hk _ => Below.heap_setCell w ⟨b, o, none⟩ u k (by show k ≠ b; omega)) fun k hk _ => hk⟩
theorem KidsOwn.form {w : World} {base : Nat} {T : TypeId} {f : Nat} {vs : List Value} {ts : List PxT} {v : Value} (h : KidsOwn w base T f vs ts v) : ∃ a cap, v = .slice a ts.length cap := by
  rcases h.2.1.2 with ⟨rfl, h0⟩ | ⟨g, cap, cur, rfl, _⟩
  · exact ⟨none, 0, by rw [h0]⟩
  · exact ⟨_, cap, rfl⟩
theorem KidsOwn.tree {w : World} {base lo b f : Nat} {T : TypeId} {vs : List Value} {t : PxT} {v : Value} (h : KidsOwn w base T f vs t.kids v) (hl : lo ≤ b) (hbase : lo ≤ base) (hwf : t.wf) (hr : RowAt w b 0 [.int .i64 t.kind, .int .i64 t.n, .string t.s, v]) :
    PxR (f + 1) (fun b => lo ≤ b) w (.pointer (some ⟨b, 0, none⟩)) t := by
  by_cases h0 : 0 < t.kids.length
  · obtain ⟨g, cap, rfl, h1, h2, h3, h4, h5, h6⟩ := own_cells h.2.1 h0
    refine ⟨b, _, cap, rfl, hl, hwf, hr, h3, h4, fun _ => ⟨g, 0, rfl, by omega, fun i k hk => ?_⟩⟩
    have hi := (List.getElem?_eq_some_iff.1 hk).1
    obtain ⟨p, hp⟩ : ∃ p, vs[i]? = some p := ⟨_, List.getElem?_eq_getElem (by rw [h.1]; exact hi)⟩
    exact ⟨p, h5 i p hp, (h.2.2 i p k hp hk).to (Same.below (Below.refl _ _)) fun b h _ => by omega⟩
  · obtain ⟨a, cap, rfl⟩ := h.form
    rcases h.2.1.2 with ⟨hv, _⟩ | ⟨g, cap', cur, hv, _, _, h5, h6, _⟩
    · injection hv with _ e1 e2
      subst e2
      exact ⟨b, a, 0, rfl, hl, hwf, hr, by omega, by omega, fun h => absurd h h0⟩
    · injection hv with _ e1 e2
      subst e2
      exact ⟨b, a, cap, rfl, hl, hwf, hr, h5, by unfold maxLen at h6; omega, fun h => absurd h h0⟩

end Go.Proofs.YtaimekaagmcmnaaGreat

/- Names: keywords, slices.Contains at []string, NameOk of both. -/
namespace Go.Proofs.YtaimekaagmcmnaaGreat
open Go.RowKit
set_option linter.unusedVariables false
set_option linter.unusedSimpArgs false
attribute [local go_sem] Ext.cell

set_option maxRecDepth 100000 in
set_option maxHeartbeats 4000000 in
theorem indexS_c (xs : List ByteArray) (v : ByteArray) (lo : Nat) (u : Value) (w : World) (hu : Sl StrR 1 lo w u xs) :
    Calls Tryz.prog 88 #[u, .string v] w (IdxPost (fun y => v.toList == y.toList) xs w) := by
  obtain ⟨ua, uc, rfl, ul, um, h0⟩ := hu
  replace h0 := Lib.hid h0
  obtain ⟨m, hm⟩ : ∃ m, m = xs.length := ⟨_, rfl⟩
  rw [← hm] at ul ⊢
  replace hm := Lib.hid hm
  go_enter Tryz.func88, Tryz.ntmps88
  go_wp2_with fail
  go_loopw [8] (fun i wr => ∃ k : Nat, k ≤ m ∧ i = .int .i64 k ∧ Below w.heap.size w wr ∧ Hid (∀ y ∈ xs.take k, (v.toList == y.toList) = false)) (fun i _ => m - (intOf i).toNat)
  case atStart => exact ⟨0, by omega, rfl, Below.refl _ _, fun y hy => by simp at hy⟩
  case round =>
    obtain ⟨k, hk, rfl, hw, hF⟩ := hrel
    by_cases hlt : k < m
    · obtain ⟨b1, o1, x, r, _, rfl, P1, ⟨rfl, -⟩, r1⟩ := (h0.out.below StrR.good hw).get hm hlt
      have e0 : wr.cell? ⟨b1, o1 + k, none⟩ = some (.string x) := by simpa using r1 0 _ rfl
      clear r1
      cases hq : (v.toList == x.toList) with
      | true =>
        go_wp2_with fail
        go_returns
        exact ⟨k, rfl, by
          have : xs.any (fun y => v.toList == y.toList) = true := List.any_eq_true.2 ⟨x, List.mem_of_getElem? P1.out, by simpa using hq⟩
          rw [this]; simp, hw⟩
      | false =>
        have hq' := Lib.hid hq
        go_wp2_with fail
        go_roundw
        case rel => exact ⟨k + 1, by omega, by go_num, hw, by
          show ∀ y ∈ xs.take (k + 1), (v.toList == y.toList) = false
          rw [take_snoc' P1.out]
          intro y hy
          rcases List.mem_append.1 hy with h | h
          · exact hF.out y h
          · simp at h; subst h; exact hq'.out⟩
        case measure => simp [intOf]; omega
    · obtain rfl : k = m := by omega
      go_wp2_with fail
      go_returns
      exact ⟨-1, rfl, by
        have hF := hF.out
        rw [take_full hm] at hF
        have : xs.any (fun y => v.toList == y.toList) = false := List.any_eq_false.2 fun y hy => by rw [hF y hy]; simp
        rw [this]; simp, hw⟩

theorem containsS_c (xs : List ByteArray) (v : ByteArray) (lo : Nat) (u : Value) (w : World) (hu : Sl StrR 1 lo w u xs) :
    Calls Tryz.prog 50 #[u, .string v] w fun e w' => e = .returned (.bool (xs.any fun y => v.toList == y.toList)) ∧ Below w.heap.size w w' := by
  have hc := indexS_c xs v lo u w hu
  replace hc : Calls Tryz.prog 88 #[u, .string v] w fun e w' => ∃ n : Int, e = .returned (.int .i64 n) ∧ decide (0 ≤ n) = (xs.any fun y => v.toList == y.toList) ∧ Below w.heap.size w w' := hc
  generalize (xs.any fun y => v.toList == y.toList) = q at *
  obtain ⟨ua, uc, rfl⟩ := hu.form
  clear hu
  go_enter Tryz.func50, Tryz.ntmps50
  go_wp2_with (go_at_call 88; refine hc.mono ?_; rintro e w1 ⟨n, rfl, hn, hb⟩)
  go_returns
  exact ⟨rfl, hb⟩

def kwB : List ByteArray := [⟨#[108, 101, 116]⟩, ⟨#[114, 101, 99]⟩, ⟨#[105, 110]⟩, ⟨#[102, 117, 110]⟩, ⟨#[105, 102]⟩, ⟨#[116, 104, 101, 110]⟩, ⟨#[101, 108, 115, 101]⟩, ⟨#[109, 97, 116, 99, 104]⟩, ⟨#[119, 105, 116, 104]⟩, ⟨#[101, 110, 100]⟩, ⟨#[116, 121, 112, 101]⟩, ⟨#[111, 102]⟩, ⟨#[114, 97, 105, 115, 101]⟩, ⟨#[116, 114, 121]⟩, ⟨#[114, 101, 102]⟩, ⟨#[116, 114, 117, 101]⟩, ⟨#[102, 97, 108, 115, 101]⟩]
def isKw (s : ByteArray) : Bool := kwB.any fun y => s.toList == y.toList
theorem kw_row (w : World) (T : TypeId) : RowAt (w.alloc (.cells (kwB.map Value.string).toArray T)) w.heap.size 0 (kwB.map Value.string) := by
  have := RowAt.box w (kwB.map Value.string).toArray T
  simpa using this
theorem kw_ok : ∀ y ∈ kwB, StrOk y := by
  intro y hy
  have : y.size ≤ 5 := by
    revert y
    decide
  unfold StrOk
  omega
theorem row_strs {w : World} {g : Nat} {xs : List ByteArray} (h : RowAt w g 0 (xs.map Value.string)) (hok : ∀ y ∈ xs, StrOk y) (cap : Nat) (hc : xs.length ≤ cap) (hm : cap ≤ 9223372036854775807) : Sl StrR 1 g w (.slice (some ⟨g, 0, none⟩) xs.length cap) xs :=
  ⟨_, cap, rfl, hc, hm, fun _ => ⟨g, 0, Nat.le_refl _, rfl, fun i x hx => ⟨[.string x], ⟨rfl, hok x (List.mem_of_getElem? hx)⟩, fun j c hj => by
    cases j with
    | zero =>
      simp at hj; subst hj
      have := h i (.string x) (by rw [List.getElem?_map, hx]; rfl)
      simpa using this
    | succ j => simp at hj⟩⟩⟩

set_option maxRecDepth 100000 in
set_option maxHeartbeats 4000000 in
theorem keywords_c (w : World) : Calls Tryz.prog 84 #[] w fun e w' => ∃ g, e = .returned (.slice (some ⟨g, 0, none⟩) 17 17) ∧ Sl StrR 1 0 w' (.slice (some ⟨g, 0, none⟩) 17 17) kwB ∧ Below w.heap.size w w' := by
  go_enter Tryz.func84, Tryz.ntmps84
  go_wp2_with fail
  go_returns
  refine ⟨w.heap.size, rfl, ?_, by go_grown⟩
  exact (row_strs (kw_row w 9) kw_ok 17 (by decide) (by omega)).mono StrR.good (Nat.zero_le _)

end Go.Proofs.YtaimekaagmcmnaaGreat

/- NameOk of both. -/
namespace Go.Proofs.YtaimekaagmcmnaaGreat
open Go.RowKit
set_option linter.unusedVariables false
set_option linter.unusedSimpArgs false
attribute [local go_sem] Ext.cell

def nameOk (s : ByteArray) : Bool := (wordOk s && lowB (firstB s)) && !isKw s
theorem word01_one (s : ByteArray) : word01 s 1 = (wordOk s && lowB (firstB s)) := by
  unfold word01 wordOk
  rw [clsB_one]
  cases decide (1 ≤ (s.size : Int) ∧ (s.size : Int) ≤ 12) <;> cases lowB (firstB s) <;> cases allW s.data.toList <;> rfl

set_option maxRecDepth 100000 in
set_option maxHeartbeats 4000000 in
theorem impl_NameOk_c (s : ByteArray) (hs : StrOk s) (w : World) : Calls Tryz.prog 45 #[.string s] w fun e w' => e = .returned (.bool (nameOk s)) ∧ Below w.heap.size w w' := by
  have c1 := fun W => wordOk_c s hs W
  unfold StrOk at hs
  have hk := fun u W (hW : Sl StrR 1 0 W u kwB) => containsS_c kwB s 0 u W hW
  unfold nameOk
  cases hw : wordOk s with
  | false =>
    rw [hw] at c1
    clear hw hk
    go_enter Tryz.func45, Tryz.ntmps45
    go_wp2_with (go_at_call 82; ((with_reducible refine (c1 _).mono ?_); rintro e w1 ⟨rfl, rfl⟩))
    go_returns
    exact ⟨rfl, Below.refl _ _⟩
  | true =>
    rw [hw] at c1
    have h0 : 0 < s.size := by unfold wordOk at hw; simp at hw; omega
    have h0' : (0 : Int) < s.size := by omega
    have hf : firstB s = (s[0]'h0).toNat := by unfold firstB; rw [dif_pos h0]
    rw [hf]
    clear hw hf
    have c2 := fun W => isLower_c ((s[0]'h0).toNat : Int) W
    generalize lowB ((s[0]'h0).toNat : Int) = lb at *
    have e : (kwB.any fun y => s.toList == y.toList) = isKw s := rfl
    rw [e] at hk
    clear e
    generalize isKw s = kw at *
    replace hk := Lib.hid hk
    cases lb with
    | false =>
      go_enter Tryz.func45, Tryz.ntmps45
      go_wp2_with (first | (go_at_call 82; ((with_reducible refine (c1 _).mono ?_); rintro e w1 ⟨rfl, rfl⟩)) | (go_at_call 83; ((with_reducible refine (c2 _).mono ?_); rintro e w1 ⟨rfl, rfl⟩)))
      go_returns
      exact ⟨rfl, Below.refl _ _⟩
    | true =>
      go_enter Tryz.func45, Tryz.ntmps45
      go_wp2_with (first | (go_at_call 82; ((with_reducible refine (c1 _).mono ?_); rintro e w1 ⟨rfl, rfl⟩)) | (go_at_call 83; ((with_reducible refine (c2 _).mono ?_); rintro e w1 ⟨rfl, rfl⟩)) | (go_at_call 84; ((with_reducible refine (keywords_c _).mono ?_); rintro e w1 ⟨g, rfl, hS, hb⟩)) | (go_at_call 50; ((with_reducible refine (hk.out _ _ hS).mono ?_); rintro e w2 ⟨rfl, hb2⟩)))
      go_returns
      exact ⟨rfl, hb.trans (hb2.mono hb.size)⟩

set_option maxRecDepth 100000 in
set_option maxHeartbeats 4000000 in
theorem l01Kept_c (s : ByteArray) (w : World) : Calls Tryz.prog 65 #[.string s] w fun e w' => e = .returned (.bool (isKw s)) ∧ Below w.heap.size w w' := by
  have H := row_strs (kw_row w 9) kw_ok 17 (by decide) (by omega)
  obtain ⟨W0, hW0⟩ : ∃ W0, W0 = w.alloc (.cells (kwB.map Value.string).toArray 9) := ⟨_, rfl⟩
  have hw0 : Below w.heap.size w W0 := by rw [hW0]; go_grown
  rw [← hW0] at H
  obtain ⟨a, c, hv, -, -, h0⟩ := H
  injection hv with e1 e2 e3
  subst e1
  replace h0 := Lib.hid h0
  clear e2 e3
  go_enter Tryz.func65, Tryz.ntmps65
  go_upto_region 2 with fail
  rw [show w.alloc (.cells #[.string ⟨#[108, 101, 116]⟩, .string ⟨#[114, 101, 99]⟩, .string ⟨#[105, 110]⟩, .string ⟨#[102, 117, 110]⟩, .string ⟨#[105, 102]⟩, .string ⟨#[116, 104, 101, 110]⟩, .string ⟨#[101, 108, 115, 101]⟩, .string ⟨#[109, 97, 116, 99, 104]⟩, .string ⟨#[119, 105, 116, 104]⟩, .string ⟨#[101, 110, 100]⟩, .string ⟨#[116, 121, 112, 101]⟩, .string ⟨#[111, 102]⟩, .string ⟨#[114, 97, 105, 115, 101]⟩, .string ⟨#[116, 114, 121]⟩, .string ⟨#[114, 101, 102]⟩, .string ⟨#[116, 114, 117, 101]⟩, .string ⟨#[102, 97, 108, 115, 101]⟩] 9) = W0 from hW0.symm]
  clear hW0
  go_loopw [7] (fun i wr => ∃ k : Nat, k ≤ 17 ∧ i = .int .i64 k ∧ Below w.heap.size w wr ∧ Below W0.heap.size W0 wr ∧ Hid (∀ y ∈ kwB.take k, (s.toList == y.toList) = false)) (fun i _ => 17 - (intOf i).toNat)
  case atStart => exact ⟨0, by omega, rfl, hw0, Below.refl _ _, fun y hy => by simp at hy⟩
  case round =>
    obtain ⟨k, hk, rfl, hw, hw1, hF⟩ := hrel
    have hlen : kwB.length = 17 := rfl
    by_cases hlt : k < 17
    · obtain ⟨b1, o1, x, r, _, hab, P1, ⟨rfl, -⟩, r1⟩ := (h0.out.below StrR.good hw1).get (n := 17) (Lib.hid rfl) hlt
      obtain ⟨rfl, rfl⟩ : w.heap.size = b1 ∧ 0 = o1 := by injection hab with h; injection h with h1 h2; exact ⟨h1, h2⟩
      have e0 : wr.cell? ⟨w.heap.size, k, none⟩ = some (.string x) := by simpa using r1 0 _ rfl
      clear r1 hab hlen
      cases hq : (s.toList == x.toList) with
      | true =>
        have hfin : isKw s = true := List.any_eq_true.2 ⟨x, List.mem_of_getElem? P1.out, by simpa using hq⟩
        replace hfin := Lib.hid hfin
        go_wp2_with fail
        go_returns
        exact ⟨by rw [hfin.out]; rfl, hw⟩
      | false =>
        have hq' := Lib.hid hq
        go_wp2_with fail
        go_roundw
        case rel => exact ⟨k + 1, by omega, by go_num, hw, hw1, by
          show ∀ y ∈ kwB.take (k + 1), (s.toList == y.toList) = false
          rw [take_snoc' P1.out]
          intro y hy
          rcases List.mem_append.1 hy with h | h
          · exact hF.out y h
          · simp at h; subst h; exact hq'.out⟩
        case measure => simp [intOf]; omega
    · obtain rfl : k = 17 := by omega
      have hfin : isKw s = false := List.any_eq_false.2 fun y hy => by rw [hF.out y (by rw [List.take_of_length_le (by rw [hlen]; omega)]; exact hy)]; simp
      replace hfin := Lib.hid hfin
      clear hlen
      go_wp2_with fail
      go_returns
      exact ⟨by rw [hfin.out]; rfl, hw⟩

set_option maxRecDepth 100000 in
set_option maxHeartbeats 4000000 in
theorem spec_NameOk_c (s : ByteArray) (hs : StrOk s) (w : World) : Calls Tryz.prog 34 #[.string s] w fun e w' => e = .returned (.bool (nameOk s)) ∧ Below w.heap.size w w' := by
  have c1 := fun W => l01Word_c s 1 hs W
  have c2 := fun W => l01Kept_c s W
  rw [word01_one] at c1
  unfold nameOk
  generalize (wordOk s && lowB (firstB s)) = b1 at *
  generalize isKw s = b2 at *
  cases b1 with
  | false =>
    go_enter Tryz.func34, Tryz.ntmps34
    go_wp2_with (go_at_call 64; ((with_reducible refine (c1 _).mono ?_); rintro e w1 ⟨rfl, rfl⟩))
    go_returns
    exact ⟨rfl, Below.refl _ _⟩
  | true =>
    go_enter Tryz.func34, Tryz.ntmps34
    go_wp2_with (first | (go_at_call 64; ((with_reducible refine (c1 _).mono ?_); rintro e w1 ⟨rfl, rfl⟩)) | (go_at_call 65; ((with_reducible refine (c2 _).mono ?_); rintro e w1 ⟨rfl, hb⟩)))
    go_returns
    exact ⟨rfl, hb⟩

end Go.Proofs.YtaimekaagmcmnaaGreat

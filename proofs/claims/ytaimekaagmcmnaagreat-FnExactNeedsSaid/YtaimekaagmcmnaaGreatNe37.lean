/- Parts of the proof, merged: MarkS, LibNames, Uses, Nd1. -/
import Derived.Lib.SliceRun
import Derived.Test.YtaimekaagmcmnaaGreatNe36
namespace Go.Proofs.YtaimekaagmcmnaaGreat
open Go.RowKit
set_option linter.unusedVariables false
set_option linter.unusedSimpArgs false
attribute [local go_sem] Ext.cell

set_option maxHeartbeats 1000000 in
theorem markStringS_c (b off n cap k lo : Nat) (hlo : lo ≤ b) (hkn : k + n ≤ 4611686018427387904) (w : World) (hb0 : b < w.heap.size) (hA : Wr w b off n) :
    Calls Tryz.prog 11 #[.slice (some ⟨b, off, none⟩) n cap, .int .i64 k] w fun e w' => e = .returned (.int .i64 (k + n : Nat)) ∧ Mk w' b off n (fun j => .string (markT (k + j))) ∧ Below lo w w' ∧ Kept (· = b) w w' := by
  go_enter Tryz.func11, Tryz.ntmps11
  go_wp2_with fail
  go_loopw [1, 5] (fun kk i wr => ∃ m j : Nat, j ≤ n ∧ m = k + j ∧ kk = .int .i64 m ∧ i = .int .i64 j ∧ Wr wr b off n ∧ Mk wr b off j (fun j => .string (markT (k + j))) ∧ Below lo w wr ∧ Kept (· = b) w wr) (fun _ i _ => n - (intOf i).toNat)
  case atStart => exact ⟨k, 0, by omega, by omega, rfl, rfl, hA, fun j hj => absurd hj (by omega), Below.refl _ _, Kept.refl _ _⟩
  case round =>
    obtain ⟨m, j, hj, hm, rfl, rfl, hA1, hM, hw, hK⟩ := hrel
    replace hm := Lib.hid hm
    have hz := hw.size
    clear hA
    by_cases hlt : j < n
    · have hm1 : m ≤ 4611686018427387904 := by have := hm.out; omega
      go_wp2_with (go_at_call 31; refine (markText_c m hm1 _).mono ?_; rintro e w2 ⟨rfl, hb2⟩; have hA2 := hA1.below hb2; have hM2 := hM.below hb2; have hK2 := hK.trans hz (Kept.below hb2); have hw2 := hw.trans (hb2.mono (by omega)); have hz2 := hb2.size; clear hA1 hM hb2; obtain ⟨c0, e0, f0⟩ := hA2 j hlt)
      go_roundw
      case rel => exact ⟨m + 1, j + 1, by omega, by rw [hm.out]; omega, by go_num, by go_num, hA2.set _ _, hM2.step hA2 hlt (by rw [hm.out]), hw2.setCell (by dsimp only; omega) _, hK2.set rfl _⟩
      case measure => simp [intOf]; omega
    · obtain rfl : j = n := by omega
      go_wp2
      go_returns
      exact ⟨by rw [hm.out]; rfl, hM, hw, hK⟩

set_option maxHeartbeats 1000000 in
theorem heldStringS_c (b off n cap k : Nat) (hkn : k + n ≤ 4611686018427387904) (w : World) (hM : Mk w b off n (fun j => .string (markT (k + j)))) :
    Calls Tryz.prog 12 #[.slice (some ⟨b, off, none⟩) n cap, .int .i64 k] w fun e w' => e = .returned (.int .i64 (k + n : Nat)) ∧ Below w.heap.size w w' := by
  go_enter Tryz.func12, Tryz.ntmps12
  go_wp2_with fail
  go_loopw [1, 5] (fun kk i wr => ∃ m j : Nat, j ≤ n ∧ m = k + j ∧ kk = .int .i64 m ∧ i = .int .i64 j ∧ Below w.heap.size w wr) (fun _ i _ => n - (intOf i).toNat)
  case atStart => exact ⟨k, 0, by omega, by omega, rfl, rfl, Below.refl _ _⟩
  case round =>
    obtain ⟨m, j, hj, hm, rfl, rfl, hw⟩ := hrel
    replace hm := Lib.hid hm
    have hz := hw.size
    by_cases hlt : j < n
    · have hm1 : m ≤ 4611686018427387904 := by have := hm.out; omega
      have R1 : ∀ z : Ext wr, z.val.cell? ⟨b, off + j, none⟩ = some (.string (markT m)) := fun z => by have h := (hM.below hw).below z.property j hlt; rw [hm.out]; exact h
      generalize hs : markT m = s at *
      replace hs := Lib.hid hs
      have c1 := fun W => markText_c m hm1 W
      rw [hs.out] at c1
      go_wp2_with fail
      refine wp_region_ext_lit (by kernel_rfl) (by kernel_rfl) ?_
      repeat (go_big_quiet_step ((go_at_call 31; exact Calls.ext (c1 _))))
      refine wpQuiet_nil ?_
      rintro _ ⟨⟨w2, hw2⟩, rfl⟩
      clear R1
      have hw3 := hw.trans (hw2.mono hw.size)
      go_wp2
      go_roundw
      case rel => exact ⟨m + 1, j + 1, by omega, by rw [hm.out]; omega, by go_num, by go_num, hw3⟩
      case measure => simp [intOf]; omega
    · obtain rfl : j = n := by omega
      go_wp2
      go_returns
      exact ⟨by rw [hm.out]; rfl, hw⟩

def libNames : List ByteArray := [⟨#[105, 100]⟩, ⟨#[98, 111, 116, 104]⟩, ⟨#[110, 111, 116]⟩, ⟨#[97, 98, 115]⟩, ⟨#[108, 101, 110]⟩, ⟨#[97, 112, 112]⟩, ⟨#[114, 101, 118]⟩, ⟨#[109, 97, 112]⟩, ⟨#[102, 111, 108, 100]⟩, ⟨#[115, 117, 109]⟩, ⟨#[101, 97, 99, 104]⟩, ⟨#[117, 112, 116, 111]⟩, ⟨#[115, 104, 111, 119, 115]⟩]
theorem libNames_ok : ∀ x ∈ libNames, StrOk x := by
  intro x hx
  simp only [libNames, List.mem_cons, List.not_mem_nil, or_false] at hx
  rcases hx with rfl | rfl | rfl | rfl | rfl | rfl | rfl | rfl | rfl | rfl | rfl | rfl | rfl <;> (show (Array.size _) ≤ _; decide)

theorem info_StrLn : (Tryz.prog.info? 9).map (fun i => (i.zero, i.size, i.bytes)) = some (some (.string ⟨#[]⟩), 1, 16) := by kernel_rfl

set_option maxHeartbeats 1000000 in
theorem impl_LibNames_c (w : World) :
    Calls Tryz.prog 24 #[] w fun e w' => ∃ v, e = .returned v ∧ w'.ownsRow w.heap.size 9 1 v 13 (libNames.map Value.string) ∧ Below w.heap.size w w' := by
  go_enter Tryz.func24, Tryz.ntmps24
  go_wp2
  go_returns
  exact ⟨_, rfl, own_new w _ _ 1 13 rfl (by decide) _ (Nat.le_refl _), by go_grown⟩

def DefRow (w : World) (b i : Nat) (x : ByteArray) : Prop := ∃ s0 s1 a n c d, RowAt w b (i * 5) [.string x, .string s0, .string s1, .slice a n c, .bool d]
theorem rowAt_part {w : World} {b : Nat} {xs r : List Value} (h : RowAt w b 0 xs) (i : Nat) (hr : (xs.drop i).take 5 = r) : RowAt w b i r := fun j c hc => by
  rw [← hr, List.getElem?_take] at hc
  split at hc
  · rw [List.getElem?_drop] at hc
    have := h (i + j) c hc
    simpa using this
  · cases hc

theorem defs_of (w4 : World) (cs : Array Value) (e : TypeId) (hsz : cs.size = 13 * 5) (hrow : ∀ i x, libNames[i]? = some x → ∃ s0 s1 a n c d, (cs.toList.drop (i * 5)).take 5 = [.string x, .string s0, .string s1, .slice a n c, .bool d]) : ∀ i x, libNames[i]? = some x → DefRow (w4.alloc (.cells cs e)) w4.heap.size i x := fun i x hx => by
  obtain ⟨g, cap, hv, h1, h2, h3, h4, h5, h6⟩ := own_cells (own_new w4 cs e 5 13 hsz (by decide) 0 (Nat.zero_le _)) (by decide)
  obtain rfl : w4.heap.size = g := by injection hv with a; injection a with a; injection a
  obtain ⟨s0, s1, a, n, c, d, hr⟩ := hrow i x hx
  exact ⟨s0, s1, a, n, c, d, rowAt_part h5 (i * 5) hr⟩

set_option maxRecDepth 100000 in
set_option maxHeartbeats 1000000 in
theorem l22Defs_c (w : World) :
    Calls Tryz.prog 38 #[] w fun e w' => ∃ b, e = .returned (.slice (some ⟨b, 0, none⟩) 13 13) ∧ w.heap.size ≤ b ∧ b < w'.heap.size ∧ (∀ i x, libNames[i]? = some x → DefRow w' b i x) ∧ Below w.heap.size w w' := by
  go_enter Tryz.func38, Tryz.ntmps38
  go_wp2
  go_returns
  generalize hw : (((w.alloc _).alloc _).alloc _).alloc _ = w4
  have hb4 : Below w.heap.size w w4 := by rw [← hw]; go_grown
  have hz4 := hb4.size
  refine ⟨w4.heap.size, ?_, hz4, by simp, defs_of w4 _ _ rfl (fun i x hx => ?_), hb4.trans (by go_grown)⟩
  · rw [← hw]; simp only [World.size_alloc]; rfl
  · have hi : i < 13 := (List.getElem?_eq_some_iff.1 hx).1
    match i, hi, hx with
    | 0, _, hx => obtain rfl := Option.some.inj hx; exact ⟨_, _, _, _, _, _, rfl⟩
    | 1, _, hx => obtain rfl := Option.some.inj hx; exact ⟨_, _, _, _, _, _, rfl⟩
    | 2, _, hx => obtain rfl := Option.some.inj hx; exact ⟨_, _, _, _, _, _, rfl⟩
    | 3, _, hx => obtain rfl := Option.some.inj hx; exact ⟨_, _, _, _, _, _, rfl⟩
    | 4, _, hx => obtain rfl := Option.some.inj hx; exact ⟨_, _, _, _, _, _, rfl⟩
    | 5, _, hx => obtain rfl := Option.some.inj hx; exact ⟨_, _, _, _, _, _, rfl⟩
    | 6, _, hx => obtain rfl := Option.some.inj hx; exact ⟨_, _, _, _, _, _, rfl⟩
    | 7, _, hx => obtain rfl := Option.some.inj hx; exact ⟨_, _, _, _, _, _, rfl⟩
    | 8, _, hx => obtain rfl := Option.some.inj hx; exact ⟨_, _, _, _, _, _, rfl⟩
    | 9, _, hx => obtain rfl := Option.some.inj hx; exact ⟨_, _, _, _, _, _, rfl⟩
    | 10, _, hx => obtain rfl := Option.some.inj hx; exact ⟨_, _, _, _, _, _, rfl⟩
    | 11, _, hx => obtain rfl := Option.some.inj hx; exact ⟨_, _, _, _, _, _, rfl⟩
    | 12, _, hx => obtain rfl := Option.some.inj hx; exact ⟨_, _, _, _, _, _, rfl⟩

def usesX (name : ByteArray) (x : ExT) (l : List ByteArray) : List ByteArray := l.filter fun n => !(eqS n name) && decide (0 < countE n x)
def ownX (name : ByteArray) (x : ExT) : Bool := decide (0 < countE name x)
theorem usesX_snoc (name : ByteArray) (x : ExT) (l : List ByteArray) (n : ByteArray) : usesX name x (l ++ [n]) = usesX name x l ++ (if (!(eqS n name) && decide (0 < countE n x)) = true then [n] else []) := by
  unfold usesX
  rw [List.filter_append]
  congr 1
  by_cases h : (!(eqS n name) && decide (0 < countE n x)) = true
  · rw [List.filter_cons]; show (if (!eqS n name && decide (0 < countE n x)) = true then _ else _) = _; rw [if_pos h, if_pos h]; rfl
  · rw [List.filter_cons]; show (if (!eqS n name && decide (0 < countE n x)) = true then _ else _) = _; rw [if_neg h, if_neg h]; rfl
theorem usesX_len (name : ByteArray) (x : ExT) (l : List ByteArray) : (usesX name x l).length ≤ l.length := List.length_filter_le _ _
structure TreeL (s : ByteArray) (x : ExT) : Prop where
  parse : ∀ w, Calls Tryz.prog 89 #[.string s] w (ParsePost x w)
  tree : TreeOf ⟨[], layE 0 x⟩ x
theorem treeL_out {s : ByteArray} {x : ExT} (hs : s.size ≤ 200) (h : treeL s.data.toList = some x) : TreeL s x := by
  unfold treeL at h
  obtain ⟨L, hL, h⟩ := Option.bind_eq_some_iff.1 h
  split at h
  · cases h
  rename_i h1
  obtain ⟨o, ho, h⟩ := Option.bind_eq_some_iff.1 h
  split at h
  rotate_left
  · cases h
  rename_i h2
  obtain rfl := Option.some.inj h
  obtain ⟨h3, h4, h5, h6, h7⟩ := h2
  have hsz : s.data.toList.length = s.size := rfl
  have h8 : ∀ y ∈ layE 0 o.t, y.pats.length ≤ 600 ∧ ∀ q ∈ y.pats, q.nodes.length ≤ 600 ∧ ∀ z ∈ q.nodes, z.kids.length ≤ 600 := fun y hy => by
    have := List.all_eq_true.1 h7 y hy
    rw [Bool.and_eq_true] at this
    refine ⟨of_decide_eq_true this.1, fun q hq => ?_⟩
    have h := List.all_eq_true.1 this.2 q hq
    rw [Bool.and_eq_true] at h
    exact ⟨of_decide_eq_true h.1, fun z hz => of_decide_eq_true (List.all_eq_true.1 h.2 z hz)⟩
  have hn1 : ¬ 4000 < L.length := fun h => h1 (.inl h)
  have hn2 : eqS (sgn (tokAt L s.size 0)) qType = false := by
    rw [← hsz]
    cases h : eqS (sgn (tokAt L s.data.toList.length 0)) qType
    · rfl
    · exact absurd (.inr h) h1
  refine ⟨fun w => Parse_c s (by omega) 200 (by decide) L (by simpa [restB] using hL) (by omega) hn2 o ho h3 h4 (fun y hy => ⟨by have := (h8 y hy).1; omega, fun q hq => ((h8 y hy).2 q hq).1⟩) w, ⟨h5, ⟨?_, ?_, ?_, ?_⟩, fun j y hy => by rw [Nat.zero_add]; exact hy, ?_, ?_, h6⟩⟩
  · show (layE 0 o.t).length ≤ _; rw [layE_len]; omega
  · exact Nat.zero_le _
  · intro t ht; cases ht
  · intro y hy
    exact ⟨by have := (h8 y hy).1; omega, fun q hq => by have := ((h8 y hy).2 q hq).1; omega⟩
  · show (layE 0 o.t).length ≤ _; rw [layE_len]; exact h4
  · intro y hy
    exact ⟨by have := (h8 y hy).1; omega, fun q hq => ⟨by have := ((h8 y hy).2 q hq).1; omega, fun z hz => by have := ((h8 y hy).2 q hq).2 z hz; omega⟩⟩
theorem libNames_get {k : Nat} (h : k < 13) : ∃ n, libNames[k]? = some n ∧ (libNames.map Value.string)[k]? = some (.string n) ∧ StrOk n := by
  have hl : k < libNames.length := h
  exact ⟨libNames[k], List.getElem?_eq_getElem hl, by rw [List.getElem?_map, List.getElem?_eq_getElem hl]; rfl, libNames_ok _ (List.getElem_mem _)⟩

def UsesPost (name : ByteArray) (x : ExT) (w : World) (e : Ending) (w' : World) : Prop :=
  ∃ v, e = .returned (.tuple #[v, .bool (ownX name x)]) ∧ OwnF 9 1 strRow StrOk w.heap.size w' v (usesX name x libNames) ∧ Below w.heap.size w w'
set_option maxRecDepth 100000 in
set_option maxHeartbeats 16000000 in
theorem libUses_c (name : ByteArray) (x : ExT) (hx : TreeL (libFunP name) x) (w : World) : Calls Tryz.prog 52 #[.string name] w (UsesPost name x w) := by
  have cF := fun W => libFun_c name W
  have cP := hx.parse
  have hpost : ∀ W v, OwnF 9 1 strRow StrOk w.heap.size W v (usesX name x libNames) → Below w.heap.size w W → UsesPost name x w (.returned (.tuple #[v, .bool (ownX name x)])) W := fun W v h1 h2 => ⟨v, rfl, h1, h2⟩
  have hown : ownX name x = decide (0 < countE name x) := rfl
  generalize ownX name x = ow at *
  generalize UsesPost name x w = Q at *
  generalize libFunP name = tx at *
  have cI := fun n r lo W (hr : GProgram.R lo W r ⟨[], layE 0 x⟩) => FreeIn_c ⟨[], layE 0 x⟩ x hx.tree n r lo W hr
  replace cF := Lib.hid cF; replace cP := Lib.hid cP; replace hpost := Lib.hid hpost; replace hown := Lib.hid hown; replace cI := Lib.hid cI
  clear hx
  obtain ⟨iJ, hi0, hz0, hz1, hz2⟩ := info_parts info_StrLn; have IJ := Lib.hid hi0; have IJ0 := Lib.hid hz0; have IJ1 := Lib.hid hz1; have IJ2 := Lib.hid hz2; clear hi0 hz0 hz1 hz2
  go_enter Tryz.func52, Tryz.ntmps52
  go_upto_region 2 with (first
    | (go_at_call 51; (with_reducible refine (cF.out _).mono ?_); rintro e w1 ⟨rfl, hb1⟩)
    | (go_at_call 89; (with_reducible refine (cP.out _).mono ?_); rintro e w2 ⟨ta, nv, pss, rfl, O2, hb2⟩; obtain ⟨na, nc, rfl⟩ := O2.form))
  have hz1 := hb1.size
  have hz2 := hb2.size
  have hO2lt := O2.lt
  have hrd : ∀ W, OwnN w1.heap.size W (.slice na (layE 0 x).length nc) pss (layE 0 x) → GProgram.R 0 W [.slice ta 0 0, .slice na (layE 0 x).length nc] ⟨[], layE 0 x⟩ := fun W O => ⟨_, _, rfl, trivial, ⟨ta, 0, rfl, Nat.le_refl _, Nat.zero_le _, fun h => absurd h (by simp)⟩, (O.lowerP (Nat.zero_le _)).readsP⟩
  generalize (layE 0 x).length = nl at *
  obtain ⟨w3, hW3⟩ : ∃ W, W = w2.alloc (.cells #[.slice ta 0 0, .slice na nl nc] 32) := ⟨_, rfl⟩
  rw [← hW3]
  have hb3 : Below w2.heap.size w2 w3 := by rw [hW3]; go_grown
  have D3 : RowAt w3 w2.heap.size 0 [.slice ta 0 0, .slice na nl nc] := by rw [hW3]; exact RowAt.box w2 #[_, _] _
  have hz3 : w3.heap.size = w2.heap.size + 1 := by rw [hW3]; simp
  have O3 := O2.below hb3
  obtain ⟨pb, hpb⟩ : ∃ b, b = w2.heap.size := ⟨_, rfl⟩
  rw [← hpb] at D3 ⊢
  have hw3 := (hb1.trans (hb2.mono hz1)).trans (hb3.mono (by omega))
  have hpb3 : pb < w3.heap.size := by omega
  replace hpb := Lib.hid hpb
  clear hW3 O2 hb1 hb2 hb3 cP cF
  go_upto_region 3 with fail
  obtain ⟨w4, hW4⟩ : ∃ W, W = w3.alloc (.cells #[] 9) := ⟨_, rfl⟩
  rw [← hW4]
  have hb4 : Below w3.heap.size w3 w4 := by rw [hW4]; go_grown
  have hz4' : w4.heap.size = w3.heap.size + 1 := by rw [hW4]; simp
  have O4 : OwnF 9 1 strRow StrOk w.heap.size w4 (.slice (some ⟨w3.heap.size, 0, none⟩) 0 0) [] := ⟨own_empty_at (by rw [hW4]; exact heap_alloc_new' _ _ _ (by simp)) (by omega), fun x h => by cases h⟩
  have D4 := D3.below hb4
  have P4 := O3.below hb4
  have hw4 := hw3.trans (hb4.mono hw3.size)
  obtain ⟨ob, hob⟩ : ∃ b, b = w3.heap.size := ⟨_, rfl⟩
  have hov : ∀ q, (Value.slice (some ⟨ob, 0, none⟩) 0 0).ownBlock = some q → q = ob := fun q hq => by simpa [Value.ownBlock] using hq.symm
  rw [← hob] at O4 hz4' hpb3
  have hob2 : w2.heap.size < ob := by omega
  rw [show (w2.heap.size + 1) = ob by omega]
  clear hW4 D3 O3 hb4 hz3 hob
  have cL := impl_LibNames_c w4
  replace cL := Lib.hid cL
  generalize (Value.slice (some ⟨ob, 0, none⟩) 0 0) = ov at *
  go_upto_region 4 with (go_at_call 24; (with_reducible refine (cL.out).mono ?_); rintro e w5 ⟨lv, rfl, OL, hb5⟩; obtain ⟨g, lcap, rfl, l1, l2, l3, l4, LR, l6⟩ := own_cells OL (by decide))
  have hz4 := hw4.size
  have hz5 := hb5.size
  have D5 := D4.below hb5
  have P5 := P4.below hb5
  have hw5 := hw4.trans (hb5.mono hz4)
  have O5 := O4.below hb5
  clear D4 P4 O4 OL cL l6
  have hrr : ∀ W, Kept (· = ob) w5 W → GProgram.R 0 W [.slice ta 0 0, .slice na nl nc] ⟨[], layE 0 x⟩ := fun W hW => hrd W (P5.kept hW fun b hb e => by have := hO2lt b hb; omega)
  have hpo : pb ≠ ob := by omega
  have hgo : g ≠ ob := by omega
  replace O5 := Lib.hid O5; replace hrr := Lib.hid hrr; replace hov := Lib.hid hov
  clear hrd P5 hO2lt
  go_wp2_with fail
  go_loopw [7, 20] (fun ov ii wr => ∃ k : Nat, k ≤ 13 ∧ ii = .int .i64 k ∧ Hid (OwnF 9 1 strRow StrOk w.heap.size wr ov (usesX name x (libNames.take k))) ∧ Hid (∀ q, ov.ownBlock = some q → q = ob ∨ w5.heap.size ≤ q) ∧ Hid (Kept (· = ob) w5 wr) ∧ Below w.heap.size w wr ∧ w5.heap.size ≤ wr.heap.size) (fun _ ii _ => 13 - (intOf ii).toNat)
  case atStart => exact ⟨0, by omega, rfl, by simpa [usesX] using O5, Lib.hid (fun q hq => .inl (hov.out q hq)), Lib.hid (Kept.refl _ _), hw5, Nat.le_refl _⟩
  case round =>
    clear O5 hov
    obtain ⟨k, hk, rfl, O, hov, K, hwA, hsz5⟩ := hrel
    have hsz := hwA.size
    have D := D5.kept K.out hpo
    have LRk := LR.kept K.out hgo
    have hrw := hrr.out wr K.out
    replace hrw := Lib.hid hrw
    by_cases hlt : k < 13
    · obtain ⟨n, hn1, hn2, hno⟩ := libNames_get hlt
      have htk : libNames.take (k + 1) = libNames.take k ++ [n] := by rw [List.take_add_one, hn1]; rfl
      have hpn := usesX_snoc name x (libNames.take k) n
      rw [← htk] at hpn
      have e_0 : wr.cell? ⟨g, 0 + k, none⟩ = some (.string n) := LRk k _ hn2
      rw [Nat.zero_add] at e_0
      have hbb1 := World.block_lt_of_cell? _ _ e_0; dsimp only at hbb1
      have cIn := fun W (hW : Below wr.heap.size wr W) => cI.out n _ 0 W (GProgram.good.below hrw.out hW)
      have hkb : (usesX name x (libNames.take k)).length ≤ 13 := by
        have h1 := usesX_len name x (libNames.take k)
        rw [List.length_take] at h1
        omega
      have c1 : (n.toList != name.toList) = !(eqS n name) := by rw [bne, eqS_list]
      have c2 : (n.toList == name.toList) = eqS n name := eqS_list n name
      generalize eqS n name = q at *
      generalize decide (0 < countE n x) = fr at *
      generalize hl : usesX name x (libNames.take k) = l at *
      generalize hl2 : usesX name x (libNames.take (k + 1)) = l2 at *
      obtain ⟨va, vc, rfl⟩ := O.out.form
      obtain ⟨vn, hvn⟩ : ∃ y, y = l.length := ⟨_, rfl⟩
      have hown2 := O.out.1
      have hOw := Lib.hid O.out.2
      rw [← hvn] at hown2 hkb hov ⊢
      replace hl := Lib.hid hl; replace hl2 := Lib.hid hl2; replace hpn := Lib.hid hpn; replace htk := Lib.hid htk; replace hvn := Lib.hid hvn; replace hn1 := Lib.hid hn1; replace hn2 := Lib.hid hn2; replace cIn := Lib.hid cIn; replace hown2 := Lib.hid hown2
      clear LRk
      obtain ⟨d_0, d_1⟩ := D.box2; have hsD := World.block_lt_of_cell? _ _ d_0; dsimp only at hsD
      have fin0 : (!q && fr) = false → ∀ W, Below wr.heap.size wr W → Hid (OwnF 9 1 strRow StrOk w.heap.size W (.slice va vn vc) l2) := fun hq W hW => Lib.hid (by
        rw [hpn.out, hq, if_neg (by simp), List.append_nil, hvn.out]
        exact O.out.below hW)
      replace fin0 := Lib.hid fin0
      cases q
      · replace c1 : (n.toList != name.toList) = true := c1
        cases fr
        · go_wp2_with (go_at_call 26; (with_reducible refine (cIn.out _ (Below.refl _ _)).mono ?_); rintro e w1 ⟨rfl, hb⟩)
          go_roundw
          case rel => exact ⟨k + 1, by omega, by go_num, by rw [hl2.out]; exact fin0.out rfl _ hb, hov, Lib.hid (K.out.trans hsz5 (Kept.below hb)), hwA.trans (hb.mono hsz), Nat.le_trans hsz5 hb.size⟩
          case measure => simp [intOf]; omega
        · go_upto_region 7 with (go_at_call 26; (with_reducible refine (cIn.out _ (Below.refl _ _)).mono ?_); rintro e w1 ⟨rfl, hb⟩)
          have hwB := hwA.trans (hb.mono hwA.size)
          have hown6 := own_below hown2.out hb
          have hzB := hwB.size
          have hzb := hb.size
          have K1 := Lib.hid (K.out.trans hsz5 (Kept.below hb))
          replace hown6 := Lib.hid hown6
          clear hown2 fin0
          go_wp2_with (at_builtin; refine wpList_append_lies _ rfl _ _ _ rfl (w.heap.size) 9 iJ _ 1 16 Tryz.underlying27 IJ.out IJ0.out IJ1.out IJ2.out rfl (by omega) (.slice va vn vc) (vn) (rowsOf strRow l) rfl (own_below hown6.out (by go_grown)) ⟨w1.heap.size, 0, none⟩ 1 1 [.string n] rfl rfl (World.news_of_block (cs := #[.string n]) (t := 9) (fr := (0, 0)) (heap_alloc_new' _ _ _ (by simp))) (by intro u hu; simp at hu; (first | (subst hu; rfl) | (rcases hu with rfl | rfl | rfl | rfl <;> rfl) | (rcases hu with rfl | rfl | rfl | rfl | rfl | rfl <;> rfl) | (rcases hu with rfl | rfl | rfl | rfl | rfl | rfl | rfl <;> rfl) | (rcases hu with rfl | rfl | rfl | rfl | rfl | rfl | rfl | rfl | rfl <;> rfl))) (by omega) (by unfold maxLen; omega) (by omega) (by simp; omega) _ rfl ?_; intro g2 cap2 w6 hownN hgrow hat hlt2)
          have hB6 : Below w.heap.size w w6 := below_grown2 (wr := w1) (base := w.heap.size) hgrow (by go_grown) hwB hzB hown6.out
          have k6 := kept_of hgrow (w := w1) (by go_grown)
          have hz6 : w1.heap.size + 1 ≤ w6.heap.size := by have := hgrow.size; simpa using this
          go_roundw
          case rel =>
            refine ⟨k + 1, by omega, by go_num, Lib.hid ⟨?_, fun y hy => ?_⟩, Lib.hid (fun q hq => ?_), Lib.hid (fun q h1 h2 => (k6 q (by omega) (fun e => ?_)).trans (K1.out q h1 h2)), hB6, by omega⟩
            · rw [hl2.out, hpn.out, if_pos (show (!false && true) = true from rfl), List.length_append, ← hvn.out, rowsOf_append, rowsOf_one]
              exact hownN
            · rw [hl2.out, hpn.out, if_pos (show (!false && true) = true from rfl)] at hy
              rcases List.mem_append.1 hy with h | h
              · exact hOw.out y h
              · simp only [List.mem_singleton] at h; rw [h]; exact hno
            · obtain rfl : g2 = q := by simpa [Value.ownBlock] using hq
              rcases hat with h | h
              · exact hov.out g2 h
              · simp at h; omega
            · rcases hov.out q e.symm with h | h
              · exact h2 h
              · omega
          case measure => simp [intOf]; omega
      · replace c1 : (n.toList != name.toList) = false := c1
        go_wp2_with fail
        go_roundw
        case rel => exact ⟨k + 1, by omega, by go_num, by rw [hl2.out]; exact fin0.out rfl _ (Below.refl _ _), hov, K, hwA, hsz5⟩
        case measure => simp [intOf]; omega
    · obtain rfl : k = 13 := by omega
      have O2 := O.out
      rw [show libNames.take 13 = libNames from rfl] at O2
      have cIn := fun W (hW : Below wr.heap.size wr W) => cI.out name _ 0 W (GProgram.good.below hrw.out hW)
      rw [← hown.out] at cIn
      replace cIn := Lib.hid cIn; replace O2 := Lib.hid O2
      obtain ⟨d_0, d_1⟩ := D.box2; have hsD := World.block_lt_of_cell? _ _ d_0; dsimp only at hsD
      go_wp2_with (go_at_call 26; (with_reducible refine (cIn.out _ (Below.refl _ _)).mono ?_); rintro e w1 ⟨rfl, hb⟩)
      exact hpost.out _ _ (O2.out.below hb) (hwA.trans (hb.mono hwA.size))
theorem slice_noneS {α : Type} {R : Reading α} {sz lo : Nat} {w : World} {xs : List α} (h : SlAt R sz lo w none xs) : xs = [] := by
  cases xs with
  | nil => rfl
  | cons x xs => obtain ⟨b, off, _, ha, _⟩ := h (by simp); cases ha
set_option maxRecDepth 100000 in
set_option maxHeartbeats 1000000 in
theorem cloneS_c (xs : List ByteArray) (u : Value) (lo : Nat) (hlen : xs.length ≤ 1048576) (w : World) (hu : Sl StrR 1 lo w u xs) :
    Calls Tryz.prog 49 #[u] w fun e w' => ∃ v, e = .returned v ∧ OwnF 9 1 strRow StrOk w.heap.size w' v xs ∧ Below w.heap.size w w' := by
  have Hu := hu
  obtain ⟨a, c, rfl, l1, m1, hh⟩ := hu
  obtain ⟨i0, hi0, hz0, hz1, hz2⟩ := info_parts info_StrLn
  have qn : ∀ (w : World) (a : Option Addr) (n c n' c' : Nat), (binOp .eql 27 (.slice a n c) (.slice none n' c')).run Tryz.prog w = .ok (.bool a.isNone) w := fun w a n c n' c' => Lib.run_eql_slice_nil w _ _ a n c n' c' Tryz.underlying27
  have I := Lib.hid hi0; have I0 := Lib.hid hz0; have I1 := Lib.hid hz1; have I2 := Lib.hid hz2
  clear hi0 hz0 hz1 hz2
  cases a with
  | none =>
    obtain rfl : xs = [] := slice_noneS hh
    clear Hu hh
    simp only [List.length_nil]
    go_enter Tryz.func49, Tryz.ntmps49
    go_wp2_with fail
    go_returns
    exact ⟨_, rfl, OwnF.empty, by go_grown⟩
  | some a =>
    have hO := own_new w #[] 9 1 0 rfl (by unfold maxLen; omega) w.heap.size (Nat.le_refl _)
    replace Hu := Lib.hid Hu
    generalize hn : xs.length = n at *
    replace hn := Lib.hid hn
    clear hh
    go_enter Tryz.func49, Tryz.ntmps49
    go_wp2_with (at_builtin; refine wpList_append_sl _ flatStr rfl _ _ _ rfl w.heap.size 9 i0 _ 16 Tryz.underlying27 I.out I0.out I1.out I2.out rfl w.heap.size 0 0 [] rfl hO lo _ xs rfl (Hu.out.below StrR.good (by go_grown)) (by rw [hn.out]; unfold maxLen; omega) (by rw [hn.out]; omega) (by simp) ?_; rw [hn.out]; intro g cap w2 hown hgrow hg)
    have hb2 : Below w.heap.size w w2 := below_grown (by go_grown) (by simp) hO hgrow
    go_returns
    refine ⟨_, rfl, ⟨?_, flatStr.wfs Hu.out⟩, hb2⟩
    rw [hn.out]
    simpa using hown

def IdxPostS (p : ByteArray → Bool) (xs : List ByteArray) (w : World) (e : Ending) (w' : World) : Prop :=
  ((e = .returned (.int .i64 (-1)) ∧ ∀ y ∈ xs, p y = false) ∨ ∃ (k : Nat) (x : ByteArray), e = .returned (.int .i64 (k : Int)) ∧ xs[k]? = some x ∧ p x = true ∧ ∀ y ∈ xs.take k, p y = false) ∧ Below w.heap.size w w'
set_option maxRecDepth 100000 in
set_option maxHeartbeats 4000000 in
theorem indexFuncS_c (xs : List ByteArray) (p : ByteArray → Bool) (g : Nat) (lb : Array Value) (lo : Nat) (u : Value) (w : World) (hu : Sl StrR 1 lo w u xs)
    (hp : ∀ x W, x ∈ xs → Below w.heap.size w W → Calls Tryz.prog g (#[.string x] ++ lb) W fun e w' => e = .returned (.bool (p x)) ∧ Below W.heap.size W w') (eg : ∀ args w, (callFunc g args).run Tryz.prog w = .ok (.enter g args) w) :
    Calls Tryz.prog 54 #[u, .func (.func g) #[] lb] w (IdxPostS p xs w) := by
  obtain ⟨ua, uc, rfl, ul, um, h0⟩ := hu
  have hpost1 : (∀ y ∈ xs, p y = false) → ∀ W, Below w.heap.size w W → IdxPostS p xs w (.returned (.int .i64 (-1))) W := fun h W hW => ⟨.inl ⟨rfl, h⟩, hW⟩
  have hpost2 : ∀ (k : Nat) x W, xs[k]? = some x → p x = true → (∀ y ∈ xs.take k, p y = false) → Below w.heap.size w W → IdxPostS p xs w (.returned (.int .i64 (k : Int))) W := fun k x W h1 h2 h3 hW => ⟨.inr ⟨k, x, rfl, h1, h2, h3⟩, hW⟩
  generalize IdxPostS p xs w = Q at *
  replace hp := Lib.hid hp; replace h0 := Lib.hid h0; replace hpost1 := Lib.hid hpost1; replace hpost2 := Lib.hid hpost2
  obtain ⟨m, hm⟩ : ∃ m, m = xs.length := ⟨_, rfl⟩
  rw [← hm] at ul ⊢
  replace hm := Lib.hid hm
  go_enter Tryz.func54, Tryz.ntmps54
  go_wp2_with fail
  go_loopw [8] (fun i wr => ∃ k : Nat, k ≤ m ∧ i = .int .i64 k ∧ Below w.heap.size w wr ∧ Hid (∀ y ∈ xs.take k, p y = false)) (fun i _ => m - (intOf i).toNat)
  case atStart => exact ⟨0, by omega, rfl, Below.refl _ _, fun y hy => by simp at hy⟩
  case round =>
    obtain ⟨k, hk, rfl, hw, hF⟩ := hrel
    by_cases hlt : k < m
    · obtain ⟨b1, o1, x, r, _, rfl, P1, hx, r1⟩ := (h0.out.below StrR.good hw).get hm hlt
      have hc := hp.out x wr (List.mem_of_getElem? P1.out) hw
      obtain ⟨rfl, hxs⟩ := hx
      have e_0 : wr.cell? ⟨b1, o1 + k, none⟩ = some (.string x) := by simpa using r1 0 _ rfl
      have hbb1 := World.block_lt_of_cell? _ _ e_0; dsimp only at hbb1
      clear r1
      replace P1 := P1
      generalize hq : p x = q at hc
      replace hq := Lib.hid hq
      cases q with
      | true =>
        go_wp2_with (go_at_fn g; refine hc.mono ?_; rintro e w1 ⟨rfl, hb⟩)
        exact hpost2.out k x _ P1.out hq.out hF.out (hw.trans (hb.mono hw.size))
      | false =>
        go_wp2_with (go_at_fn g; refine hc.mono ?_; rintro e w1 ⟨rfl, hb⟩)
        go_roundw
        case rel => exact ⟨k + 1, by omega, by go_num, hw.trans (hb.mono hw.size), by
          show ∀ y ∈ xs.take (k + 1), p y = false
          rw [take_snoc' P1.out]
          intro y hy
          rcases List.mem_append.1 hy with h | h
          · exact hF.out y h
          · simp at h; subst h; exact hq.out⟩
        case measure => simp [intOf]; omega
    · obtain rfl : k = m := by omega
      go_wp2_with fail
      exact hpost1.out (by have hF := hF.out; rw [List.take_of_length_le (by have := hm.out; omega)] at hF; exact hF) _ hw
end Go.Proofs.YtaimekaagmcmnaaGreat

/- Parts of the proof, merged: DData, DL. -/
import Derived.IntWalk
import Derived.Test.YtpblhonnknmjjaaFd015
/- The reference's draw of a value: l07Data. -/
namespace Go.Proofs.Ytpblhonnknmjjaa
open Go.RowKit
set_option linter.unusedVariables false
set_option linter.unusedSimpArgs false
attribute [local go_sem] Ext.cell

/-- A small tree: at most f levels, short texts, few children. -/
def SmT : Nat → PxT → Prop
  | 0, _ => False
  | f + 1, t => t.wf ∧ t.s.size ≤ 5 ∧ t.kids.length ≤ 2 ∧ ∀ k ∈ t.kids, SmT f k
theorem SmT.up : ∀ {f : Nat} {t : PxT}, SmT f t → SmT (f + 1) t
  | 0, _, h => absurd h (by simp [SmT])
  | f + 1, t, ⟨h1, h2, h3, h4⟩ => ⟨h1, h2, h3, fun k hk => (h4 k hk).up⟩
theorem SmT.mono {f g : Nat} {t : PxT} (h : SmT f t) (hfg : f ≤ g) : SmT g t := by
  induction g with
  | zero => obtain rfl : f = 0 := by omega
            exact h
  | succ g ih =>
    by_cases e : f = g + 1
    · exact e ▸ h
    · exact (ih (by omega)).up
theorem szT_up : ∀ {f : Nat} {t : PxT}, SmT f t → szT (f + 1) t = szT f t
  | 0, _, h => absurd h (by simp [SmT])
  | f + 1, t, ⟨h1, h2, h3, h4⟩ => by
    have e : t.kids.map (szT (f + 1)) = t.kids.map (szT f) := List.map_congr_left fun k hk => szT_up (h4 k hk)
    show 1 + t.kids.length + (t.kids.map (szT (f + 1))).sum = 1 + t.kids.length + (t.kids.map (szT f)).sum
    rw [e]
theorem szT_mono {f g : Nat} {t : PxT} (h : SmT f t) (hfg : f ≤ g) : szT g t = szT f t := by
  induction g with
  | zero => obtain rfl : f = 0 := by omega
            rfl
  | succ g ih =>
    by_cases e : f = g + 1
    · rw [e]
    · rw [szT_up (h.mono (by omega)), ih (by omega)]
theorem RowAt.prefix {w : World} {b o : Nat} {r s : List Value} (h : RowAt w b o (r ++ s)) : RowAt w b o r := fun j c hc => h j c (by rw [List.getElem?_append_left (List.getElem?_eq_some_iff.1 hc).1]; exact hc)
theorem RowAt.suffix {w : World} {b o n : Nat} {r s : List Value} (h : RowAt w b o (r ++ s)) (hn : r.length = n) : RowAt w b (o + n) s := fun j c hc => by
  have := h (n + j) c (by rw [List.getElem?_append_right (by omega), show n + j - r.length = j by omega]; exact hc)
  rwa [Nat.add_assoc]
theorem PV.leaf {S : Nat → Prop} {w : World} {k n : Int} {s : ByteArray} (hwf : (PxT.mk k n s []).wf) : PV 1 S w [.int .i64 k, .int .i64 n, .string s, .slice none 0 0] (.mk k n s []) :=
  ⟨none, 0, rfl, hwf, Nat.le_refl _, by omega, fun h => absurd h (by show ¬ 0 < ([] : List PxT).length; simp)⟩
theorem PV.one {f g : Nat} {S : Nat → Prop} {w : World} {k n : Int} {s : ByteArray} {q : List Value} {t : PxT} (hwf : (PxT.mk k n s [t]).wf) (hg : S g) (hq : RowAt w g 0 q) (h : PV f S w q t) :
    PV (f + 1) S w [.int .i64 k, .int .i64 n, .string s, .slice (some ⟨g, 0, none⟩) 1 1] (.mk k n s [t]) :=
  ⟨_, 1, rfl, hwf, Nat.le_refl _, by omega, fun _ => ⟨g, 0, rfl, hg, fun i c hc => by
    match i, hc with
    | 0, hc =>
      obtain rfl : t = c := by simpa [PxT.kids] using hc
      exact ⟨q, by simpa using hq, h⟩
    | i + 1, hc => simp [PxT.kids] at hc⟩⟩
theorem PV.two {f g : Nat} {S : Nat → Prop} {w : World} {k n : Int} {s : ByteArray} {q r : List Value} {t u : PxT} (hwf : (PxT.mk k n s [t, u]).wf) (hg : S g) (hq : RowAt w g 0 (q ++ r)) (h : PV f S w q t) (h' : PV f S w r u) :
    PV (f + 1) S w [.int .i64 k, .int .i64 n, .string s, .slice (some ⟨g, 0, none⟩) 2 2] (.mk k n s [t, u]) :=
  ⟨_, 2, rfl, hwf, Nat.le_refl _, by omega, fun _ => ⟨g, 0, rfl, hg, fun i c hc => by
    match i, hc with
    | 0, hc =>
      obtain rfl : t = c := by simpa [PxT.kids] using hc
      exact ⟨q, by simpa using hq.prefix, h⟩
    | 1, hc =>
      obtain rfl : u = c := by simpa [PxT.kids] using hc
      exact ⟨r, by simpa using hq.suffix h.len, h'⟩
    | i + 2, hc => simp [PxT.kids] at hc⟩⟩

def leafRow (x : Int) : List Value := [.int .i64 3, .int .i64 x, .string ⟨#[]⟩, .slice none 0 0, .int .i64 6, .int .i64 0, .string ⟨#[]⟩, .slice none 0 0, .int .i64 4, .int .i64 0, .string ⟨#[91, 93]⟩, .slice none 0 0, .int .i64 4, .int .i64 0, .string ⟨#[116, 114, 117, 101]⟩, .slice none 0 0, .int .i64 4, .int .i64 0, .string ⟨#[76, 101, 97, 102]⟩, .slice none 0 0, .int .i64 2, .int .i64 0, .string ⟨#[97]⟩, .slice none 0 0]
theorem mk_wf {k n : Int} {s : ByteArray} {ks : List PxT} (hk : 0 ≤ k ∧ k ≤ 7) (hn : I64 n) (hs : s.size ≤ 5) : (PxT.mk k n s ks).wf := ⟨⟨by show _ ≤ k; omega, by show k ≤ _; omega⟩, hn, by show s.size ≤ _; omega⟩
theorem wf_con {s : ByteArray} (hs : s.size ≤ 5) (k : Int) (hk : 0 ≤ k ∧ k ≤ 7) (ks : List PxT) : (PxT.mk k 0 s ks).wf := mk_wf (ks := ks) (k := k) (n := 0) hk ⟨by omega, by omega⟩ hs
/-- The six leaves that may be drawn. -/
theorem six_leaves {W : World} {g k : Nat} {x : Int} (hx : I64 x) (h : RowAt W g 0 (leafRow x)) (hk : k < 6) : ∃ (kd n : Int) (s : ByteArray), (PxT.mk kd n s []).wf ∧ s.size ≤ 5 ∧ W.cell? ⟨g, k * 4, none⟩ = some (.int .i64 kd) ∧ W.cell? ⟨g, k * 4 + 1, none⟩ = some (.int .i64 n) ∧ W.cell? ⟨g, k * 4 + 2, none⟩ = some (.string s) ∧ W.cell? ⟨g, k * 4 + 3, none⟩ = some (.slice none 0 0) := by
  have hh : ∀ j c, (leafRow x)[j]? = some c → W.cell? ⟨g, j, none⟩ = some c := fun j c hc => by have := h j c hc; rwa [Nat.zero_add] at this
  have z64 : I64 0 := by constructor <;> omega
  match k, hk with
  | 0, _ => exact ⟨3, x, ⟨#[]⟩, mk_wf (by omega) hx (by decide), by decide, hh 0 _ rfl, hh 1 _ rfl, hh 2 _ rfl, hh 3 _ rfl⟩
  | 1, _ => exact ⟨6, 0, ⟨#[]⟩, mk_wf (by omega) z64 (by decide), by decide, hh 4 _ rfl, hh 5 _ rfl, hh 6 _ rfl, hh 7 _ rfl⟩
  | 2, _ => exact ⟨4, 0, ⟨#[91, 93]⟩, mk_wf (by omega) z64 (by decide), by decide, hh 8 _ rfl, hh 9 _ rfl, hh 10 _ rfl, hh 11 _ rfl⟩
  | 3, _ => exact ⟨4, 0, ⟨#[116, 114, 117, 101]⟩, mk_wf (by omega) z64 (by decide), by decide, hh 12 _ rfl, hh 13 _ rfl, hh 14 _ rfl, hh 15 _ rfl⟩
  | 4, _ => exact ⟨4, 0, ⟨#[76, 101, 97, 102]⟩, mk_wf (by omega) z64 (by decide), by decide, hh 16 _ rfl, hh 17 _ rfl, hh 18 _ rfl, hh 19 _ rfl⟩
  | 5, _ => exact ⟨2, 0, ⟨#[97]⟩, mk_wf (by omega) z64 (by decide), by decide, hh 20 _ rfl, hh 21 _ rfl, hh 22 _ rfl, hh 23 _ rfl⟩

def DdPost (W0 : World) (b f : Nat) (w : World) (e : Ending) (w' : World) : Prop :=
  ∃ (t : PxT) (a : Option Addr) (c : Nat), e = .returned (.agg #[.int .i64 t.kind, .int .i64 t.n, .string t.s, .slice a t.kids.length c]) ∧ PV (2 * f) (fun g => w.heap.size ≤ g) w' [.int .i64 t.kind, .int .i64 t.n, .string t.s, .slice a t.kids.length c] t ∧ SmT (2 * f) t ∧ szT (2 * f) t + 5 ≤ 6 * 2 ^ f ∧ DF W0 b w w'

theorem szT_leaf (f : Nat) (k n : Int) (s : ByteArray) : szT (f + 1) (.mk k n s []) = 1 := by simp [szT, PxT.kids]

theorem szT_one {f : Nat} {k n : Int} {s : ByteArray} {t : PxT} : szT (f + 1) (.mk k n s [t]) = 2 + szT f t := by simp [szT, PxT.kids]
theorem szT_two {f : Nat} {k n : Int} {s : ByteArray} {t u : PxT} : szT (f + 1) (.mk k n s [t, u]) = 3 + (szT f t + szT f u) := by simp [szT, PxT.kids]
/-- A tree read to more levels lays no more. -/
theorem SmT.one {f : Nat} {k n : Int} {s : ByteArray} {t : PxT} (h : SmT f t) (hwf : (PxT.mk k n s [t]).wf) (hs : s.size ≤ 5) : SmT (f + 1) (.mk k n s [t]) :=
  ⟨hwf, hs, by simp [PxT.kids], fun c hc => by obtain rfl : c = t := by simpa [PxT.kids] using hc
                                               exact h⟩
theorem SmT.two {f : Nat} {k n : Int} {s : ByteArray} {t u : PxT} (h : SmT f t) (h' : SmT f u) (hwf : (PxT.mk k n s [t, u]).wf) (hs : s.size ≤ 5) : SmT (f + 1) (.mk k n s [t, u]) :=
  ⟨hwf, hs, by simp [PxT.kids], fun c hc => by
    rcases (by simpa [PxT.kids] using hc : c = t ∨ c = u) with rfl | rfl
    · exact h
    · exact h'⟩
theorem DdPost.fin {W0 w w3 : World} {b f : Nat} {t : PxT} {a : Option Addr} {c : Nat} (D : DF W0 b w w3) (hb : b < w.heap.size) (hW : W0.heap.size ≤ w.heap.size) (h : PV (2 * f) (fun g => w.heap.size < g) w3 [.int .i64 t.kind, .int .i64 t.n, .string t.s, .slice a t.kids.length c] t)
    (hs : SmT (2 * f) t) (hz : szT (2 * f) t + 5 ≤ 6 * 2 ^ f) : DdPost W0 b f w (.returned (.agg #[.int .i64 t.kind, .int .i64 t.n, .string t.s, .slice a t.kids.length c])) (put4 w3 w.heap.size (.int .i64 t.kind) (.int .i64 t.n) (.string t.s) (.slice a t.kids.length c)) :=
  ⟨t, a, c, rfl, (h.kept (put4_kept w3 w.heap.size _ _ _ _) (fun g hg e => by omega)).to (fun _ _ _ => rfl) (fun g hg _ => by omega), hs, hz, D.put4 (Nat.le_refl _) hb hW _ _ _ _⟩

/-- Behind the drawing of a pair: it lies in a box q. -/
def DdMid (W0 : World) (b f' : Nat) (w w0 : World) (ta : PxT) (s7 : Value) (wx : World) : Prop :=
  ∃ (q g : Nat) (tb : PxT), s7 = .pointer (some ⟨q, 0, none⟩) ∧ w.heap.size < q ∧ RowAt wx q 0 [.int .i64 5, .int .i64 0, .string ⟨#[]⟩, .slice (some ⟨g, 0, none⟩) 2 2] ∧
    PV (2 * (f' + 1) + 1) (fun g => w.heap.size < g) wx [.int .i64 5, .int .i64 0, .string ⟨#[]⟩, .slice (some ⟨g, 0, none⟩) 2 2] (.mk 5 0 ⟨#[]⟩ [ta, tb]) ∧ SmT (2 * (f' + 1) + 1) (.mk 5 0 ⟨#[]⟩ [ta, tb]) ∧
    szT (2 * (f' + 1)) ta + szT (2 * (f' + 1)) tb + 10 ≤ 12 * 2 ^ (f' + 1) ∧ DF W0 b w0 wx
theorem DdMid.mk {W0 : World} {b f' : Nat} {w w0 W : World} {ta tb : PxT} {q g ca cb : Nat} {ua ub : Option Addr} (hq : w.heap.size < q) (hR : RowAt W q 0 [.int .i64 5, .int .i64 0, .string ⟨#[]⟩, .slice (some ⟨g, 0, none⟩) 2 2]) (hg : w.heap.size < g)
    (hL : RowAt W g 0 [.int .i64 ta.kind, .int .i64 ta.n, .string ta.s, .slice ua ta.kids.length ca, .int .i64 tb.kind, .int .i64 tb.n, .string tb.s, .slice ub tb.kids.length cb])
    (PA : PV (2 * (f' + 1)) (fun g => w.heap.size < g) W [.int .i64 ta.kind, .int .i64 ta.n, .string ta.s, .slice ua ta.kids.length ca] ta) (PB : PV (2 * (f' + 1)) (fun g => w.heap.size < g) W [.int .i64 tb.kind, .int .i64 tb.n, .string tb.s, .slice ub tb.kids.length cb] tb)
    (SA : SmT (2 * (f' + 1)) ta) (SB : SmT (2 * (f' + 1)) tb) (ZA : szT (2 * (f' + 1)) ta + 5 ≤ 6 * 2 ^ (f' + 1)) (ZB : szT (2 * (f' + 1)) tb + 5 ≤ 6 * 2 ^ (f' + 1)) (D : DF W0 b w0 W) : DdMid W0 b f' w w0 ta (.pointer (some ⟨q, 0, none⟩)) W :=
  have hwf : (PxT.mk 5 0 ⟨#[]⟩ [ta, tb]).wf := wf_con (by decide) 5 (by omega) _
  ⟨q, g, tb, rfl, hq, hR, PV.two hwf hg hL PA PB, SmT.two SA SB hwf (by decide), by omega, D⟩

set_option maxRecDepth 100000 in
set_option maxHeartbeats 8000000 in
theorem l07Data_c (W0 : World) (b : Nat) : ∀ (f : Nat) (deep : Int) (w : World), (f : Int) + deep = 4 → 0 ≤ deep → Cur W0 w b → 
    Calls Try.prog 37 #[.pointer (some ⟨b, 0, none⟩), .int .i64 deep] w (DdPost W0 b (f + 1) w)
  | f, deep, w, hf, hd0, C => by
    have ih : ∀ f', f = f' + 1 → ∀ W, Cur W0 W b → Calls Try.prog 37 #[.pointer (some ⟨b, 0, none⟩), .int .i64 (deep + 1)] W (DdPost W0 b f W) := fun f' e W hC => by
      subst e; exact l07Data_c W0 b f' (deep + 1) W (by omega) (by omega) hC
    have hbl := C.lt
    have hlo := C.lo
    have hW0 := C.below.size
    replace ih := Lib.hid ih
    go_enter Try.func37, Try.ntmps37
    go_upto_region 1 with fail
    have E : RowAt (w.alloc (.cells #[.int .i64 0, .int .i64 0, .string ⟨#[]⟩, .slice none 0 0] 63)) (w.heap.size) 0 [.int .i64 0, .int .i64 0, .string ⟨#[]⟩, .slice none 0 0] := RowAt.box w #[.int .i64 0, .int .i64 0, .string ⟨#[]⟩, .slice none 0 0] 63
    have EW : Wr (w.alloc (.cells #[.int .i64 0, .int .i64 0, .string ⟨#[]⟩, .slice none 0 0] 63)) (w.heap.size) 0 4 := Wr.box w #[.int .i64 0, .int .i64 0, .string ⟨#[]⟩, .slice none 0 0] 63
    have hw : Below w.heap.size w (w.alloc (.cells #[.int .i64 0, .int .i64 0, .string ⟨#[]⟩, .slice none 0 0] 63)) := by go_grown
    generalize (w.alloc (.cells #[.int .i64 0, .int .i64 0, .string ⟨#[]⟩, .slice none 0 0] 63)) = w0 at *
    have D0 : DF W0 b w w0 := (DF.refl C).after hw
    have hs0 := hw.size
    have hsE := World.block_lt_of_cell? _ _ E.box4.1; dsimp only at hsE
    replace C := Lib.hid C
    have ek : ∀ W, DF W0 b w0 W → RowAt W w.heap.size 0 [.int .i64 0, .int .i64 0, .string ⟨#[]⟩, .slice none 0 0] ∧ Wr W w.heap.size 0 4 := fun W D => ⟨E.kept D.kept (by omega), EW.kept D.kept (by omega)⟩
    replace ek := Lib.hid ek
    go_upto_region 2 with (go_at_call 21; (with_reducible refine (l01Below_c W0 _ b 8 (by omega) D0.cur).mono ?_); rintro e w1 ⟨x, rfl, hx0, hx1, hx2, D1⟩)
    clear E EW
    have hs1 := D1.size
    have D01 := D0.trans D1
    by_cases hleaf : 3 < deep ∨ x < 2
    · have hlf : decide (3 < deep) = true ∨ (decide (3 < deep) = false ∧ decide (x < 2) = true) := by
        by_cases h : 3 < deep
        · exact .inl (decide_eq_true h)
        · exact .inr ⟨decide_eq_false h, decide_eq_true (hleaf.resolve_left h)⟩
      clear hleaf
      rcases hlf with hd1 | ⟨hd1, hd2⟩
      all_goals
        go_upto_region 3 with fail
        go_wp2_with (first
          | (go_at_call 21; (with_reducible refine (l01Below_c W0 _ b 4 (by omega) D1.cur).mono ?_); rintro e w2 ⟨y, rfl, hy0, hy1, hy2, D2⟩; have hs2 := D2.size)
          | (go_at_call 21; (with_reducible refine (l01Below_c W0 _ b 6 (by omega) (D2.box _).cur).mono ?_); rintro e w3 ⟨j, rfl, hj0, hj1, hj2, D3⟩; obtain ⟨k, rfl⟩ := Int.eq_ofNat_of_zero_le hj0; have hk : k < 6 := (by omega); have hy64 : I64 y := (by constructor <;> omega); have hrow : RowAt w3 w2.heap.size 0 (leafRow y) := (RowAt.box w2 (leafRow y).toArray 63).kept D3.kept (by omega); obtain ⟨kd, nn, s, hwf, hs5, q0, q1, q2, q3⟩ := six_leaves hy64 hrow hk; have D4 := (D2.box _).trans D3; have hs4 := D4.size; clear hrow hj0 hj1 hj2; obtain ⟨E2, EW2⟩ := ek.out _ (D1.trans D4); obtain ⟨e_0, e_1, e_2, e_3⟩ := E2.box4; have ef_0 := EW2.frz 0 (by omega); have ef_1 := EW2.frz 1 (by omega); have ef_2 := EW2.frz 2 (by omega); have ef_3 := EW2.frz 3 (by omega)))
        obtain ⟨p_0, p_1, p_2, p_3⟩ := (put4_cells (x := .int .i64 kd) (y := .int .i64 nn) (z := .string s) (u := .slice none 0 0) E2 rfl).box4
        unfold put4 at p_0 p_1 p_2 p_3
        refine bodyPost_ret (v := .agg #[.int .i64 kd, .int .i64 nn, .string s, .slice none 0 0]) (by simp [results, Try.results37, go_sem, p_0, p_1, p_2, p_3]) rfl ?_
        exact DdPost.fin (t := .mk kd nn s []) ((D0.trans D1).trans D4) hbl hW0 ((PV.leaf hwf).mono (by omega)) ⟨hwf, hs5, by show ([] : List PxT).length ≤ 2; simp, fun k hk => by simp [PxT.kids] at hk⟩ (by rw [show 2 * (f + 1) = (2 * f + 1) + 1 by omega, szT_leaf]; have := Nat.one_le_two_pow (n := f); rw [Nat.pow_succ]; omega)
    · have hd1 : decide (3 < deep) = false := decide_eq_false fun h => hleaf (.inl h)
      have hd2 : decide (x < 2) = false := decide_eq_false fun h => hleaf (.inr h)
      obtain ⟨f', rfl⟩ : ∃ f', f = f' + 1 := ⟨f - 1, by omega⟩
      have cR := ih.out f' rfl
      replace cR := Lib.hid cR
      go_upto_region 4 with fail
      go_upto_region 5 with (go_at_call 37; (with_reducible refine (cR.out _ D1.cur).mono ?_); rintro e w2 ⟨ta, ua, ca, rfl, PA, SA, ZA, D2⟩)
      obtain ⟨w3, hW3⟩ : ∃ W, W = w2.alloc (.cells #[.int .i64 ta.kind, .int .i64 ta.n, .string ta.s, .slice ua ta.kids.length ca] 63) := ⟨_, rfl⟩
      rw [← hW3]
      have hb3 : Below w2.heap.size w2 w3 := by rw [hW3]; go_grown
      have A3 : RowAt w3 w2.heap.size 0 [.int .i64 ta.kind, .int .i64 ta.n, .string ta.s, .slice ua ta.kids.length ca] := by rw [hW3]; exact RowAt.box w2 #[_, _, _, _] _
      have D3 : DF W0 b w0 w3 := (D1.trans D2).after hb3
      have P3 := PA.below hb3
      have hs2 := D2.size
      have hz3 : w2.heap.size < w3.heap.size := World.block_lt_of_cell? _ _ A3.box4.1
      obtain ⟨bA, hbA⟩ : ∃ x, x = w2.heap.size := ⟨_, rfl⟩
      rw [← hbA] at A3 hz3 ⊢
      have hbA2 : w0.heap.size ≤ bA := by omega
      clear hW3 hb3 D1 D2 PA hbA D01
      have P3 : PV (2 * (f' + 1)) (fun g => w.heap.size < g) w3 [.int .i64 ta.kind, .int .i64 ta.n, .string ta.s, .slice ua ta.kids.length ca] ta := P3.to (fun _ _ _ => rfl) fun g hg _ => by omega
      obtain ⟨E3, EW3⟩ := ek.out _ D3
      have hwfA : ta.wf := by have h := SA; rw [show 2 * (f' + 1) = (2 * f' + 1) + 1 by omega] at h; exact h.1
      replace P3 := Lib.hid P3; replace SA := Lib.hid SA; replace ZA := Lib.hid ZA
      obtain ⟨a_0, a_1, a_2, a_3⟩ := A3.box4
      by_cases h4 : x < 4
      · have hd3 : decide (x < 4) = true := decide_eq_true h4
        obtain ⟨e_0, e_1, e_2, e_3⟩ := E3.box4
        have ef_0 := EW3.frz 0 (by omega); have ef_1 := EW3.frz 1 (by omega); have ef_2 := EW3.frz 2 (by omega); have ef_3 := EW3.frz 3 (by omega)
        have hsE3 := World.block_lt_of_cell? _ _ e_0; dsimp only at hsE3
        go_wp2_with fail
        obtain ⟨w4, hW4⟩ : ∃ W, W = put4 w3 w.heap.size (.int .i64 4) (.int .i64 0) (.string ⟨#[78, 111, 100, 101]⟩) (.slice (some ⟨w3.heap.size, 0, none⟩) 1 1) := ⟨_, rfl⟩
        have E4 : RowAt w4 w.heap.size 0 [.int .i64 4, .int .i64 0, .string ⟨#[78, 111, 100, 101]⟩, .slice (some ⟨w3.heap.size, 0, none⟩) 1 1] := by rw [hW4]; exact put4_cells E3 rfl
        have D4 : DF W0 b w w4 := by rw [hW4]; exact (D0.trans D3).put4 (Nat.le_refl _) hbl hW0 _ _ _ _
        have P4 : PV (2 * (f' + 1)) (fun g => w.heap.size < g) w4 [.int .i64 ta.kind, .int .i64 ta.n, .string ta.s, .slice ua ta.kids.length ca] ta := by rw [hW4]; exact P3.out.kept (put4_kept _ _ _ _ _ _) fun g hg e => by omega
        have hz4 : w4.heap.size = w3.heap.size := by rw [hW4]; simp [put4, World.setCell]
        unfold put4 at hW4
        rw [← hW4]
        have F4 : DdPost W0 b (f' + 1 + 1) w (.returned (.agg #[.int .i64 4, .int .i64 0, .string ⟨#[78, 111, 100, 101]⟩, .slice (some ⟨w3.heap.size, 0, none⟩) 1 1])) (w4.alloc (.cells #[.int .i64 ta.kind, .int .i64 ta.n, .string ta.s, .slice ua ta.kids.length ca] 63)) := by
          have hb4 : Below w4.heap.size w4 (w4.alloc (.cells #[.int .i64 ta.kind, .int .i64 ta.n, .string ta.s, .slice ua ta.kids.length ca] 63)) := by go_grown
          have hwf4 : (PxT.mk 4 0 ⟨#[78, 111, 100, 101]⟩ [ta]).wf := wf_con (by decide) 4 (by omega) _
          have hS4 : SmT (2 * (f' + 1) + 1) (.mk 4 0 ⟨#[78, 111, 100, 101]⟩ [ta]) := SmT.one SA.out hwf4 (by decide)
          refine ⟨.mk 4 0 ⟨#[78, 111, 100, 101]⟩ [ta], some ⟨w3.heap.size, 0, none⟩, 1, rfl, ?_, hS4.mono (by omega), ?_, D4.after hb4⟩
          · exact ((PV.one hwf4 (show w.heap.size < w3.heap.size by omega) (hz4 ▸ RowAt.box w4 #[.int .i64 ta.kind, .int .i64 ta.n, .string ta.s, .slice ua ta.kids.length ca] _) (P4.below hb4)).mono (by omega)).to (fun _ _ _ => rfl) fun g hg _ => by omega
          · rw [show 2 * (f' + 1 + 1) = 2 * (f' + 1) + 1 + 1 by omega, szT_one, szT_up SA.out]
            have h1 := ZA.out
            have h2 := Nat.one_le_two_pow (n := f')
            rw [Nat.pow_succ] at h1 ⊢
            omega
        obtain ⟨p_0, p_1, p_2, p_3⟩ := E4.box4
        have hsE4 := World.block_lt_of_cell? _ _ p_0; dsimp only at hsE4
        clear hW4 e_0 e_1 e_2 e_3 ef_0 ef_1 ef_2 ef_3
        replace hz4 := Lib.hid hz4
        refine bodyPost_ret (v := .agg #[.int .i64 4, .int .i64 0, .string ⟨#[78, 111, 100, 101]⟩, .slice (some ⟨w3.heap.size, 0, none⟩) 1 1]) (by simp [results, Try.results37, go_sem, p_0, p_1, p_2, p_3, hsE4]) rfl ?_
        exact F4
      · have hd3 : decide (x < 4) = false := decide_eq_false h4
        go_upto_region 7 with fail
        have hwd : IntKind.i64.wrap (deep + 1) = deep + 1 := IntWalk.i64_in _ (by omega)
        have hne1 : ¬ bA = w3.heap.size := by omega
        have hne2 : ¬ w3.heap.size = bA := by omega
        have cR' := fun W (hW : Below w3.heap.size w3 W) => cR.out W (D3.after hW).cur
        replace cR' := Lib.hid cR'
        go_cut [7] (fun s7 wx => DdMid W0 b f' w w0 ta s7 wx)
        case first =>
          go_region_held3 (fun w' => w'.cell? ⟨bA, 0, none⟩ = some (.int .i64 ta.kind) ∧ w'.cell? ⟨bA, 1, none⟩ = some (.int .i64 ta.n) ∧ w'.cell? ⟨bA, 2, none⟩ = some (.string ta.s) ∧ w'.cell? ⟨bA, 3, none⟩ = some (.slice ua ta.kids.length ca))
            (first | exact ⟨a_0, a_1, a_2, a_3⟩ | go_keep)
            ((go_at_call 37; (with_reducible refine (cR'.out _ (by go_grown)).mono ?_); rintro e w5 ⟨tb, ub, cb, rfl, PB, SB, ZB, D5⟩; have D35 : DF W0 b w0 w5 := (D3.after (by go_grown)).trans D5; have PA5 : PV (2 * (f' + 1)) (fun g => w.heap.size < g ∧ g < w3.heap.size) w5 [.int .i64 ta.kind, .int .i64 ta.n, .string ta.s, .slice ua ta.kids.length ca] ta := PV.kept (PV.below (P3.out.to (fun _ _ _ => rfl) (fun g hg h => ⟨hg, h⟩)) (by go_grown)) D5.kept (fun g hg e => by omega); have A5 : RowAt w5 bA 0 [.int .i64 ta.kind, .int .i64 ta.n, .string ta.s, .slice ua ta.kids.length ca] := RowAt.kept (A3.below (by go_grown)) D5.kept (by omega); obtain ⟨c_0, c_1, c_2, c_3⟩ := A5.box4; first | (obtain ⟨T5, TW5⟩ : RowAt w5 w3.heap.size 0 [.int .i64 0, .int .i64 0, .string ⟨#[]⟩, .slice none 0 0] ∧ Wr w5 w3.heap.size 0 4 := box_at (w3 := w3) (cs := #[.int .i64 0, .int .i64 0, .string ⟨#[]⟩, .slice none 0 0]) (T := 63) D5 rfl (by omega); obtain ⟨t_0, t_1, t_2, t_3⟩ := T5.box4; have tf_0 := TW5.frz 0 (by omega); have tf_1 := TW5.frz 1 (by omega); have tf_2 := TW5.frz 2 (by omega); have tf_3 := TW5.frz 3 (by omega); have hsT5 := World.block_lt_of_cell? _ _ t_0; dsimp only at hsT5) | skip))
          all_goals go_wp2_with fail
          all_goals go_meet
          · have hb : Below w5.heap.size w5 ((w5.alloc (.cells #[.int .i64 ta.kind, .int .i64 ta.n, .string ta.s, .slice ua ta.kids.length ca, .int .i64 tb.kind, .int .i64 tb.n, .string tb.s, .slice ub tb.kids.length cb] 63)).alloc (.cells #[.int .i64 5, .int .i64 0, .string ⟨#[]⟩, .slice (some ⟨w5.heap.size, 0, none⟩) 2 2] 63)) := by go_grown
            have hz5 := D5.size
            simp only [World.size_drew] at hz5
            refine DdMid.mk (show w.heap.size < w5.heap.size + 1 by omega) ?_ (show w.heap.size < w5.heap.size by omega) (ua := ua) (ca := ca) (ub := ub) (cb := cb) ?_ ((PA5.to (fun _ _ _ => rfl) (fun g hg _ => hg.1)).below hb) (PV.below (PB.to (fun _ _ _ => rfl) (fun g hg _ => by simp only [World.size_drew] at hg; omega)) hb) SA.out SB ZA.out ZB (D35.after hb)
            · have h := RowAt.box (w5.alloc (.cells #[.int .i64 ta.kind, .int .i64 ta.n, .string ta.s, .slice ua ta.kids.length ca, .int .i64 tb.kind, .int .i64 tb.n, .string tb.s, .slice ub tb.kids.length cb] 63)) #[.int .i64 5, .int .i64 0, .string ⟨#[]⟩, .slice (some ⟨w5.heap.size, 0, none⟩) 2 2] 63
              simp only [World.size_alloc] at h
              exact h
            · exact (RowAt.box w5 #[.int .i64 ta.kind, .int .i64 ta.n, .string ta.s, .slice ua ta.kids.length ca, .int .i64 tb.kind, .int .i64 tb.n, .string tb.s, .slice ub tb.kids.length cb] 63).below (by go_grown)
          · have hb : Below w5.heap.size w5 ((w5.alloc (.cells #[.int .i64 5, .int .i64 0, .string ⟨#[]⟩, .slice (some ⟨w5.heap.size + 1, 0, none⟩) 2 2] 63)).alloc (.cells #[.int .i64 ta.kind, .int .i64 ta.n, .string ta.s, .slice ua ta.kids.length ca, .int .i64 tb.kind, .int .i64 tb.n, .string tb.s, .slice ub tb.kids.length cb] 63)) := by go_grown
            have hz5 := D5.size
            simp only [World.size_drew] at hz5
            refine DdMid.mk (show w.heap.size < w5.heap.size by omega) ?_ (show w.heap.size < w5.heap.size + 1 by omega) (ua := ua) (ca := ca) (ub := ub) (cb := cb) ?_ ((PA5.to (fun _ _ _ => rfl) (fun g hg _ => hg.1)).below hb) (PV.below (PB.to (fun _ _ _ => rfl) (fun g hg _ => by simp only [World.size_drew] at hg; omega)) hb) SA.out SB ZA.out ZB (D35.after hb)
            · exact (RowAt.box w5 #[.int .i64 5, .int .i64 0, .string ⟨#[]⟩, .slice (some ⟨w5.heap.size + 1, 0, none⟩) 2 2] 63).below (by go_grown)
            · have h := RowAt.box (w5.alloc (.cells #[.int .i64 5, .int .i64 0, .string ⟨#[]⟩, .slice (some ⟨w5.heap.size + 1, 0, none⟩) 2 2] 63)) #[.int .i64 ta.kind, .int .i64 ta.n, .string ta.s, .slice ua ta.kids.length ca, .int .i64 tb.kind, .int .i64 tb.n, .string tb.s, .slice ub tb.kids.length cb] 63
              simp only [World.size_alloc] at h
              exact h
          · obtain ⟨w6, hW6⟩ : ∃ W, W = put4 w5 w3.heap.size (.int .i64 5) (.int .i64 0) (.string ⟨#[]⟩) (.slice (some ⟨w5.heap.size, 0, none⟩) 2 2) := ⟨_, rfl⟩
            have R6 : RowAt w6 w3.heap.size 0 [.int .i64 5, .int .i64 0, .string ⟨#[]⟩, .slice (some ⟨w5.heap.size, 0, none⟩) 2 2] := by rw [hW6]; exact put4_cells T5 rfl
            have k6 : Kept (· = w3.heap.size) w5 w6 := by rw [hW6]; exact put4_kept _ _ _ _ _ _
            have hz6 : w6.heap.size = w5.heap.size := by rw [hW6]; simp [put4, World.setCell]
            have D6 : DF W0 b w0 w6 := by rw [hW6]; exact D35.put4 (by omega) (by omega) (by omega) _ _ _ _
            unfold put4 at hW6
            rw [← hW6]
            have hb : Below w6.heap.size w6 (w6.alloc (.cells #[.int .i64 ta.kind, .int .i64 ta.n, .string ta.s, .slice ua ta.kids.length ca, .int .i64 tb.kind, .int .i64 tb.n, .string tb.s, .slice ub tb.kids.length cb] 63)) := by go_grown
            have hz5 := D5.size
            simp only [World.size_drew, World.size_alloc] at hz5
            refine DdMid.mk (show w.heap.size < w3.heap.size by omega) (R6.below hb) (show w.heap.size < w5.heap.size by omega) (ua := ua) (ca := ca) (ub := ub) (cb := cb) (hz6 ▸ RowAt.box w6 #[.int .i64 ta.kind, .int .i64 ta.n, .string ta.s, .slice ua ta.kids.length ca, .int .i64 tb.kind, .int .i64 tb.n, .string tb.s, .slice ub tb.kids.length cb] 63)
              (((PA5.kept k6 (fun g hg e => by omega)).to (fun _ _ _ => rfl) (fun g hg _ => hg.1)).below hb) (PV.below (PV.to (PB.kept k6 (fun g hg e => by simp only [World.size_drew, World.size_alloc] at hg; omega)) (fun _ _ _ => rfl) (fun g hg _ => by simp only [World.size_drew, World.size_alloc] at hg; omega)) hb) SA.out SB ZA.out ZB (D6.after hb)
        obtain ⟨q, g, tb, rfl, hq, R, PP, SP, ZP, D⟩ := hcut
        clear E3 EW3 A3 a_0 a_1 a_2 a_3 cR' cR ih hne1 hne2 hwd
        obtain ⟨w5, hw5⟩ : ∃ W, W = wc := ⟨_, rfl⟩
        subst hw5
        obtain ⟨E5, EW5⟩ := ek.out _ D
        obtain ⟨e_0, e_1, e_2, e_3⟩ := E5.box4
        have ef_0 := EW5.frz 0 (by omega); have ef_1 := EW5.frz 1 (by omega); have ef_2 := EW5.frz 2 (by omega); have ef_3 := EW5.frz 3 (by omega)
        obtain ⟨r_0, r_1, r_2, r_3⟩ := R.box4
        have hqE : ¬ q = w.heap.size := by omega
        have hEq : ¬ w.heap.size = q := by omega
        have hs5 := World.block_lt_of_cell? _ _ e_0; dsimp only at hs5
        have hq5 := World.block_lt_of_cell? _ _ r_0; dsimp only at hq5
        have D05 := D0.trans D
        replace PP := Lib.hid PP; replace SP := Lib.hid SP; replace ZP := Lib.hid ZP
        by_cases h6 : x < 6
        · have hd4 : decide (x < 6) = true := decide_eq_true h6
          have F := DdPost.fin (f := f' + 1 + 1) (t := .mk 5 0 ⟨#[]⟩ [ta, tb]) (a := some ⟨g, 0, none⟩) (c := 2) D05 hbl hW0 (PP.out.mono (by omega)) (SP.out.mono (by omega)) (by
            rw [show 2 * (f' + 1 + 1) = 2 * (f' + 1) + 1 + 1 by omega, szT_up SP.out, szT_two]
            have h1 := ZP.out
            rw [Nat.pow_succ] at h1 ⊢
            rw [Nat.pow_succ]
            omega)
          go_wp2_with fail
          obtain ⟨p_0, p_1, p_2, p_3⟩ := (put4_cells (x := .int .i64 5) (y := .int .i64 0) (z := .string ⟨#[]⟩) (u := .slice (some ⟨g, 0, none⟩) 2 2) E5 rfl).box4
          unfold put4 at p_0 p_1 p_2 p_3
          refine bodyPost_ret (v := .agg #[.int .i64 5, .int .i64 0, .string ⟨#[]⟩, .slice (some ⟨g, 0, none⟩) 2 2]) (by simp [results, Try.results37, go_sem, p_0, p_1, p_2, p_3]) rfl ?_
          exact F
        · have hd4 : decide (x < 6) = false := decide_eq_false h6
          go_wp2_with fail
          obtain ⟨w6, hW6⟩ : ∃ W, W = put4 w5 w.heap.size (.int .i64 4) (.int .i64 0) (.string ⟨#[58, 58]⟩) (.slice (some ⟨w5.heap.size, 0, none⟩) 1 1) := ⟨_, rfl⟩
          have E6 : RowAt w6 w.heap.size 0 [.int .i64 4, .int .i64 0, .string ⟨#[58, 58]⟩, .slice (some ⟨w5.heap.size, 0, none⟩) 1 1] := by rw [hW6]; exact put4_cells E5 rfl
          have D6 : DF W0 b w w6 := by rw [hW6]; exact D05.put4 (Nat.le_refl _) hbl hW0 _ _ _ _
          have P6 : PV (2 * (f' + 1) + 1) (fun g => w.heap.size < g) w6 [.int .i64 5, .int .i64 0, .string ⟨#[]⟩, .slice (some ⟨g, 0, none⟩) 2 2] (.mk 5 0 ⟨#[]⟩ [ta, tb]) := by rw [hW6]; exact PP.out.kept (put4_kept _ _ _ _ _ _) fun g hg e => by omega
          have hz6 : w6.heap.size = w5.heap.size := by rw [hW6]; simp [put4, World.setCell]
          unfold put4 at hW6
          rw [← hW6]
          have F6 : DdPost W0 b (f' + 1 + 1) w (.returned (.agg #[.int .i64 4, .int .i64 0, .string ⟨#[58, 58]⟩, .slice (some ⟨w5.heap.size, 0, none⟩) 1 1])) (w6.alloc (.cells #[.int .i64 5, .int .i64 0, .string ⟨#[]⟩, .slice (some ⟨g, 0, none⟩) 2 2] 63)) := by
            have hb6 : Below w6.heap.size w6 (w6.alloc (.cells #[.int .i64 5, .int .i64 0, .string ⟨#[]⟩, .slice (some ⟨g, 0, none⟩) 2 2] 63)) := by go_grown
            have hwf6 : (PxT.mk 4 0 ⟨#[58, 58]⟩ [.mk 5 0 ⟨#[]⟩ [ta, tb]]).wf := wf_con (by decide) 4 (by omega) _
            have hS6 : SmT (2 * (f' + 1) + 1 + 1) (.mk 4 0 ⟨#[58, 58]⟩ [.mk 5 0 ⟨#[]⟩ [ta, tb]]) := SmT.one SP.out hwf6 (by decide)
            refine ⟨.mk 4 0 ⟨#[58, 58]⟩ [.mk 5 0 ⟨#[]⟩ [ta, tb]], some ⟨w5.heap.size, 0, none⟩, 1, rfl, ?_, hS6.mono (by omega), ?_, D6.after hb6⟩
            · exact ((PV.one hwf6 (show w.heap.size < w5.heap.size by omega) (hz6 ▸ RowAt.box w6 #[.int .i64 5, .int .i64 0, .string ⟨#[]⟩, .slice (some ⟨g, 0, none⟩) 2 2] _) (P6.below hb6)).mono (by omega)).to (fun _ _ _ => rfl) fun g hg _ => by omega
            · rw [show 2 * (f' + 1 + 1) = 2 * (f' + 1) + 1 + 1 by omega, szT_one, szT_two]
              have h1 := ZP.out
              rw [Nat.pow_succ] at h1 ⊢
              rw [Nat.pow_succ]
              omega
          obtain ⟨p_0, p_1, p_2, p_3⟩ := E6.box4
          have hsE6 := World.block_lt_of_cell? _ _ p_0; dsimp only at hsE6
          clear hW6 e_0 e_1 e_2 e_3 ef_0 ef_1 ef_2 ef_3
          replace hz6 := Lib.hid hz6
          refine bodyPost_ret (v := .agg #[.int .i64 4, .int .i64 0, .string ⟨#[58, 58]⟩, .slice (some ⟨w5.heap.size, 0, none⟩) 1 1]) (by simp [results, Try.results37, go_sem, p_0, p_1, p_2, p_3, hsE6]) rfl ?_
          exact F6
end Go.Proofs.Ytpblhonnknmjjaa

/- The reference's l01Raw and l01Text, l21Data and DrawDataLess. -/
namespace Go.Proofs.Ytpblhonnknmjjaa
open Go.RowKit
set_option linter.unusedVariables false
set_option linter.unusedSimpArgs false
attribute [local go_sem] Ext.cell

set_option maxRecDepth 100000 in
set_option maxHeartbeats 8000000 in
theorem l01Raw_c (W0 w : World) (b : Nat) (C : Cur W0 w b) :
    Calls Try.prog 38 #[.pointer (some ⟨b, 0, none⟩)] w fun e w' => ∃ x : Int, e = .returned (.int .i64 x) ∧ I64 x ∧ DF W0 b w w' := by
  replace C := Lib.hid C
  go_enter Try.func38, Try.ntmps38
  go_upto_region 2 with (go_at_call 21; (with_reducible refine (l01Below_c W0 _ b 11 (by omega) C.out).mono ?_); rintro e w1 ⟨x, rfl, hx0, hx1, hx2, D1⟩)
  have hk : ((x < 4) ∧ decide (x < 4) = true) ∨ (decide (x < 4) = false ∧ x = 4) ∨ (decide (x < 4) = false ∧ x = 5) ∨ (decide (x < 4) = false ∧ x = 6) ∨ (decide (x < 4) = false ∧ x = 7) ∨ (decide (x < 4) = false ∧ x = 8) ∨ (decide (x < 4) = false ∧ (x == 4) = false ∧ (x == 5) = false ∧ (x == 6) = false ∧ (x == 7) = false ∧ (x == 8) = false) := by
    simp; omega
  rcases hk with ⟨hk, hd⟩ | ⟨hd, rfl⟩ | ⟨hd, rfl⟩ | ⟨hd, rfl⟩ | ⟨hd, rfl⟩ | ⟨hd, rfl⟩ | ⟨hd, h4, h5, h6, h7, h8⟩
  · go_wp2_with (go_at_call 21; (with_reducible refine (l01Below_c W0 _ b 20 (by omega) D1.cur).mono ?_); rintro e w2 ⟨y, rfl, hy0, hy1, hy2, D2⟩)
    go_returns
    exact ⟨_, rfl, by constructor <;> omega, D1.trans D2⟩
  · go_wp2_with (go_at_call 21; (with_reducible refine (l01Below_c W0 _ b 3 (by omega) D1.cur).mono ?_); rintro e w2 ⟨y, rfl, hy0, hy1, hy2, D2⟩)
    go_returns
    exact ⟨_, rfl, by constructor <;> omega, D1.trans D2⟩
  · go_wp2_with (go_at_call 21; (with_reducible refine (l01Below_c W0 _ b 3 (by omega) D1.cur).mono ?_); rintro e w2 ⟨y, rfl, hy0, hy1, hy2, D2⟩)
    go_returns
    exact ⟨_, rfl, by constructor <;> omega, D1.trans D2⟩
  · go_wp2_with (go_at_call 21; (with_reducible refine (l01Below_c W0 _ b 2 (by omega) D1.cur).mono ?_); rintro e w2 ⟨y, rfl, hy0, hy1, hy2, D2⟩)
    go_returns
    exact ⟨_, rfl, by constructor <;> omega, D1.trans D2⟩
  · go_wp2_with (go_at_call 21; (with_reducible refine (l01Below_c W0 _ b 2 (by omega) D1.cur).mono ?_); rintro e w2 ⟨y, rfl, hy0, hy1, hy2, D2⟩)
    go_returns
    exact ⟨_, rfl, by constructor <;> omega, D1.trans D2⟩
  · go_wp2_with (go_at_call 21; (with_reducible refine (l01Below_c W0 _ b 63 (by omega) D1.cur).mono ?_); rintro e w2 ⟨y, rfl, hy0, hy1, hy2, D2⟩)
    go_returns
    exact ⟨_, rfl, wrap64_in _, D1.trans D2⟩
  · go_wp2_with (first
      | (go_at_call 21; (with_reducible refine (l01Below_c W0 _ b 65536 (by omega) D1.cur).mono ?_); rintro e w2 ⟨y, rfl, hy0, hy1, hy2, D2⟩)
      | (go_at_call 21; (with_reducible refine (l01Below_c W0 _ b 65536 (by omega) D2.cur).mono ?_); rintro e w3 ⟨z, rfl, hz0, hz1, hz2, D3⟩)
      | (go_at_call 21; (with_reducible refine (l01Below_c W0 _ b 1000 (by omega) D3.cur).mono ?_); rintro e w4 ⟨u, rfl, hu0, hu1, hu2, D4⟩))
    go_returns
    exact ⟨_, rfl, wrap64_in _, ((D1.trans D2).trans D3).trans D4⟩
def txtRow : Array Value := #[.string ⟨#[]⟩, .string ⟨#[97]⟩, .string ⟨#[97, 66, 95, 57]⟩, .string ⟨#[97, 98, 99, 100, 101, 102, 103, 104, 105, 106, 107, 108]⟩, .string ⟨#[97, 98, 99, 100, 101, 102, 103, 104, 105, 106, 107, 108, 109]⟩, .string ⟨#[65]⟩, .string ⟨#[67, 111, 110, 115]⟩, .string ⟨#[65, 66, 67, 68, 69, 70, 71, 72, 73, 74, 75, 76]⟩, .string ⟨#[65, 66, 67, 68, 69, 70, 71, 72, 73, 74, 75, 76, 77]⟩, .string ⟨#[57, 97]⟩, .string ⟨#[95, 97]⟩, .string ⟨#[108, 101, 116]⟩, .string ⟨#[114, 101, 102]⟩, .string ⟨#[116, 114, 117, 101]⟩, .string ⟨#[108, 101, 116, 115]⟩, .string ⟨#[195, 169]⟩, .string ⟨#[97, 195, 169]⟩]
theorem txt_at {W : World} {g k : Nat} (h : RowAt W g 0 txtRow.toList) (hk : k < 17) : ∃ s : ByteArray, W.cell? ⟨g, k, none⟩ = some (.string s) ∧ s.size ≤ 13 := by
  have hh : ∀ j c, txtRow.toList[j]? = some c → W.cell? ⟨g, j, none⟩ = some c := fun j c hc => by have := h j c hc; rwa [Nat.zero_add] at this
  match k, hk with
  | 0, _ => exact ⟨_, hh 0 _ rfl, by decide⟩
  | 1, _ => exact ⟨_, hh 1 _ rfl, by decide⟩
  | 2, _ => exact ⟨_, hh 2 _ rfl, by decide⟩
  | 3, _ => exact ⟨_, hh 3 _ rfl, by decide⟩
  | 4, _ => exact ⟨_, hh 4 _ rfl, by decide⟩
  | 5, _ => exact ⟨_, hh 5 _ rfl, by decide⟩
  | 6, _ => exact ⟨_, hh 6 _ rfl, by decide⟩
  | 7, _ => exact ⟨_, hh 7 _ rfl, by decide⟩
  | 8, _ => exact ⟨_, hh 8 _ rfl, by decide⟩
  | 9, _ => exact ⟨_, hh 9 _ rfl, by decide⟩
  | 10, _ => exact ⟨_, hh 10 _ rfl, by decide⟩
  | 11, _ => exact ⟨_, hh 11 _ rfl, by decide⟩
  | 12, _ => exact ⟨_, hh 12 _ rfl, by decide⟩
  | 13, _ => exact ⟨_, hh 13 _ rfl, by decide⟩
  | 14, _ => exact ⟨_, hh 14 _ rfl, by decide⟩
  | 15, _ => exact ⟨_, hh 15 _ rfl, by decide⟩
  | 16, _ => exact ⟨_, hh 16 _ rfl, by decide⟩
  | k + 17, hk => exact absurd hk (by omega)
set_option maxRecDepth 100000 in
set_option maxHeartbeats 8000000 in
theorem l01Text_c (W0 w : World) (b : Nat) (C : Cur W0 w b) :
    Calls Try.prog 39 #[.pointer (some ⟨b, 0, none⟩)] w fun e w' => ∃ s : ByteArray, e = .returned (.string s) ∧ s.size ≤ 13 ∧ DF W0 b w w' := by
  have hbl := C.lt
  have D0 := DF.refl C
  replace C := Lib.hid C
  replace D0 := Lib.hid D0
  go_enter Try.func39, Try.ntmps39
  go_wp2_with (go_at_call 21; (with_reducible refine (l01Below_c W0 _ b 17 (by omega) (D0.out.box _).cur).mono ?_); rintro e w1 ⟨x, rfl, hx0, hx1, hx2, D1⟩; obtain ⟨k, rfl⟩ := Int.eq_ofNat_of_zero_le hx0; have hk : k < 17 := (by omega); have hrow : RowAt w1 w.heap.size 0 txtRow.toList := (RowAt.box w txtRow 9).kept D1.kept (by omega); obtain ⟨s, q0, hs⟩ := txt_at hrow hk; have D2 := (D0.out.box _).trans D1; clear hrow hx0 hx1 hx2 D1)
  go_returns
  exact ⟨s, rfl, hs, D2⟩
end Go.Proofs.Ytpblhonnknmjjaa

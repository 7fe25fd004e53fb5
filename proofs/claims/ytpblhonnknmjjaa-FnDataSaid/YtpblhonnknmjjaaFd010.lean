/- Parts of the proof, merged: Pv, Draw, Rd. -/
import Derived.Test.YtpblhonnknmjjaaRows
import Derived.Laws.Bits128
import Derived.Deep.RegionHeld3
import Derived.Deep.RegionLaw
import Derived.IntWalk
import Derived.Test.YtpblhonnknmjjaaFd09
/- Trees by value, and lists of nodes that the call owns: how they read. No program is walked here. -/
namespace Go.Proofs.Ytpblhonnknmjjaa
open Go.RowKit
set_option linter.unusedVariables false
set_option linter.unusedSimpArgs false

/-- The cells r are a tree of at most f levels; each block that they lead to is in S. -/
def PV : Nat → (Nat → Prop) → World → List Value → PxT → Prop
  | 0, _, _, _, _ => False
  | f + 1, S, w, r, t => ∃ a cap, r = [.int .i64 t.kind, .int .i64 t.n, .string t.s, .slice a t.kids.length cap] ∧ t.wf ∧ t.kids.length ≤ cap ∧ cap ≤ 9223372036854775807 ∧
      (0 < t.kids.length → ∃ g off, a = some ⟨g, off, none⟩ ∧ S g ∧ ∀ i k, t.kids[i]? = some k → ∃ q, RowAt w g (off + i * 4) q ∧ PV f S w q k)
theorem PV.len : ∀ {f : Nat} {S : Nat → Prop} {w : World} {r : List Value} {t : PxT}, PV f S w r t → r.length = 4
  | 0, _, _, _, _, h => absurd h (by simp [PV])
  | f + 1, _, _, _, _, ⟨_, _, h, _⟩ => by rw [h]; rfl
theorem PV.to : ∀ {f : Nat} {S S' : Nat → Prop} {w w' : World} {r : List Value} {t : PxT}, PV f S w r t → Same S w w' → (∀ b, S b → b < w.heap.size → S' b) → PV f S' w' r t
  | 0, _, _, _, _, _, _, h, _, _ => h
  | f + 1, S, S', w, w', r, t, ⟨a, cap, hv, hwf, h1, h2, h3⟩, hs, hi =>
    ⟨a, cap, hv, hwf, h1, h2, fun h0 =>
      let ⟨g, off, ha, hg, hk⟩ := h3 h0
      ⟨g, off, ha, by
        obtain ⟨k, hk0⟩ : ∃ k, t.kids[0]? = some k := ⟨_, List.getElem?_eq_getElem h0⟩
        obtain ⟨q, hq, hP⟩ := hk 0 k hk0
        have hl := hP.len
        exact hi g hg (World.block_lt_of_cell? w _ (hq 0 _ (List.getElem?_eq_getElem (by omega)))), fun i k hik =>
          let ⟨q, hq, hR⟩ := hk i k hik
          ⟨q, fun j c hc => hs.cell hg (hq j c hc), hR.to hs hi⟩⟩⟩
theorem PV.below {f : Nat} {S : Nat → Prop} {w w' : World} {r : List Value} {t : PxT} (h : PV f S w r t) (hb : Below w.heap.size w w') : PV f S w' r t := h.to (Same.below hb) fun _ h _ => h
theorem PV.kept {f : Nat} {S K : Nat → Prop} {w w' : World} {r : List Value} {t : PxT} (h : PV f S w r t) (hk : Kept K w w') (hS : ∀ b, S b → ¬ K b) : PV f S w' r t :=
  h.to (fun b h1 h2 => hk b h2 (hS b h1)) fun _ h _ => h
theorem PV.succ : ∀ {f : Nat} {S : Nat → Prop} {w : World} {r : List Value} {t : PxT}, PV f S w r t → PV (f + 1) S w r t
  | 0, _, _, _, _, h => absurd h (by simp [PV])
  | f + 1, S, w, r, t, ⟨a, cap, hv, hwf, h1, h2, h3⟩ => ⟨a, cap, hv, hwf, h1, h2, fun h0 =>
      let ⟨g, off, ha, hg, hk⟩ := h3 h0
      ⟨g, off, ha, hg, fun i k hik => let ⟨q, hq, hR⟩ := hk i k hik; ⟨q, hq, hR.succ⟩⟩⟩
theorem PV.mono {f g : Nat} {S : Nat → Prop} {w : World} {r : List Value} {t : PxT} (h : PV f S w r t) (hfg : f ≤ g) : PV g S w r t := by
  induction g with
  | zero => obtain rfl : f = 0 := by omega
            exact h
  | succ g ih =>
    by_cases e : f = g + 1
    · exact e ▸ h
    · exact (ih (by omega)).succ

/-! ### A list of nodes that the call owns -/
/-- A node, and where its children's list lies. -/
abbrev DRow := GDNode × Option Addr × Nat
def kidsV (p : DRow) : Value := .slice p.2.1 p.1.kids.length p.2.2
def drow (p : DRow) : List Value := [.int .i64 p.1.kind, .int .i64 p.1.n, .string p.1.s, kidsV p]
def dwf (p : DRow) : Prop := p.1.wf
def DRowR : Reading DRow := fun _ _ r p => r = drow p ∧ dwf p
theorem flatD : Flat DRowR 4 drow dwf := ⟨fun h => h, fun h _ _ => ⟨rfl, h⟩, fun _ => rfl, fun p u hu => by simp [drow] at hu; rcases hu with rfl | rfl | rfl | rfl <;> rfl, by decide⟩
/-- The children's lists of the nodes lie in blocks of which C holds. -/
def KidsIn (C : Nat → Prop) (lo : Nat) (w : World) (ps : List DRow) : Prop := ∀ p ∈ ps, Sl IntR 1 lo w (kidsV p) p.1.kids ∧ ∀ g, (kidsV p).ownBlock = some g → C g ∧ g < w.heap.size
theorem sl_kept {α : Type} {R : Reading α} {sz lo : Nat} {f : α → List Value} {wf : α → Prop} (F : Flat R sz f wf) {S : Nat → Prop} {w w' : World} {u : Value} {xs : List α} (h : Sl R sz lo w u xs) (hk : Kept S w w') (hS : ∀ g, u.ownBlock = some g → ¬ S g) : Sl R sz lo w' u xs := by
  have hwf := F.wfs h
  obtain ⟨a, c, rfl, h1, h2, h3⟩ := h
  refine ⟨a, c, rfl, h1, h2, fun h0 => ?_⟩
  obtain ⟨b, off, hl, hb, rfl, hr⟩ := F.cells h3 h0
  have hr' := hr.kept hk (hS b rfl)
  exact ⟨b, off, hl, rfl, fun i x hx => ⟨f x, F.back (hwf x (List.mem_of_getElem? hx)) _ _, fun j c hc => by rw [Nat.add_assoc]; exact hr' _ c (F.get hx hc)⟩⟩
theorem KidsIn.kept {C S : Nat → Prop} {lo : Nat} {w w' : World} {ps : List DRow} (h : KidsIn C lo w ps) (hk : Kept S w w') (hS : ∀ g, C g → ¬ S g) (hz : w.heap.size ≤ w'.heap.size) : KidsIn C lo w' ps := fun p hp =>
  let ⟨h1, h2⟩ := h p hp
  ⟨sl_kept flatInt h1 hk fun g hg => hS g (h2 g hg).1, fun g hg => ⟨(h2 g hg).1, Nat.lt_of_lt_of_le (h2 g hg).2 hz⟩⟩
theorem KidsIn.below {C : Nat → Prop} {lo : Nat} {w w' : World} {ps : List DRow} (h : KidsIn C lo w ps) (hb : Below w.heap.size w w') : KidsIn C lo w' ps := h.kept (S := fun _ => False) (Kept.below hb) (fun _ _ h => h) hb.size
theorem KidsIn.to {C C' : Nat → Prop} {lo : Nat} {w : World} {ps : List DRow} (h : KidsIn C lo w ps) (hC : ∀ g, g < w.heap.size → C g → C' g) : KidsIn C' lo w ps := fun p hp =>
  let ⟨h1, h2⟩ := h p hp
  ⟨h1, fun g hg => ⟨hC g (h2 g hg).2 (h2 g hg).1, (h2 g hg).2⟩⟩
theorem KidsIn.append {C : Nat → Prop} {lo : Nat} {w : World} {ps qs : List DRow} (h : KidsIn C lo w ps) (h' : KidsIn C lo w qs) : KidsIn C lo w (ps ++ qs) := fun p hp => by
  rcases List.mem_append.1 hp with h1 | h1
  · exact h p h1
  · exact h' p h1
theorem KidsIn.set {C : Nat → Prop} {lo : Nat} {w : World} {ps : List DRow} (h : KidsIn C lo w ps) {i : Nat} {q : DRow} (hq : Sl IntR 1 lo w (kidsV q) q.1.kids ∧ ∀ g, (kidsV q).ownBlock = some g → C g ∧ g < w.heap.size) : KidsIn C lo w (ps.set i q) := fun p hp => by
  rcases List.mem_or_eq_of_mem_set hp with h1 | rfl
  · exact h p h1
  · exact hq
/-- v holds these nodes; the call owns v's block, and the nodes' children lie in other blocks, outside A. -/
structure OwnD (A : Nat → Prop) (T : TypeId) (lo : Nat) (w : World) (v : Value) (ps : List DRow) : Prop where
  own : OwnF T 4 drow dwf lo w v ps
  kids : KidsIn (fun g => v.ownBlock ≠ some g ∧ ¬ A g) lo w ps
  out : ∀ g, v.ownBlock = some g → ¬ A g
theorem OwnD.nil (A : Nat → Prop) (T : TypeId) (lo : Nat) (w : World) : OwnD A T lo w (.slice none 0 0) [] := ⟨OwnF.empty, fun p hp => (by cases hp), fun g hg => (by cases hg)⟩
theorem OwnD.kept {A S : Nat → Prop} {T : TypeId} {lo : Nat} {w w' : World} {v : Value} {ps : List DRow} (h : OwnD A T lo w v ps) (hk : Kept S w w') (hS : ∀ g, g < w.heap.size → ¬ A g → ¬ S g) (hz : w.heap.size ≤ w'.heap.size) : OwnD A T lo w' v ps :=
  ⟨h.own.kept hk fun g hg => hS g (h.own.base g hg).2 (h.out g hg), fun p hp =>
    let ⟨h1, h2⟩ := h.kids p hp
    ⟨sl_kept flatInt h1 hk fun g hg => hS g (h2 g hg).2 (h2 g hg).1.2, fun g hg => ⟨(h2 g hg).1, Nat.lt_of_lt_of_le (h2 g hg).2 hz⟩⟩, h.out⟩
theorem OwnD.below {A : Nat → Prop} {T : TypeId} {lo : Nat} {w w' : World} {v : Value} {ps : List DRow} (h : OwnD A T lo w v ps) (hb : Below w.heap.size w w') : OwnD A T lo w' v ps :=
  h.kept (S := fun _ => False) (Kept.below hb) (fun _ _ _ h => h) hb.size
theorem OwnD.toA {A A' : Nat → Prop} {T : TypeId} {lo : Nat} {w : World} {v : Value} {ps : List DRow} (h : OwnD A T lo w v ps) (hA : ∀ g, g < w.heap.size → A' g → A g) : OwnD A' T lo w v ps :=
  ⟨h.own, h.kids.to fun g hg hc => ⟨hc.1, fun ha => hc.2 (hA g hg ha)⟩, fun g hg ha => h.out g hg (hA g (h.own.base g hg).2 ha)⟩
theorem OwnD.form {A : Nat → Prop} {T : TypeId} {lo : Nat} {w : World} {v : Value} {ps : List DRow} (h : OwnD A T lo w v ps) : ∃ a c, v = .slice a ps.length c := h.own.form
/-- As a value's nodes. -/
theorem OwnD.sl {A : Nat → Prop} {T : TypeId} {lo : Nat} {w : World} {v : Value} {ps : List DRow} (h : OwnD A T lo w v ps) : Sl GDNode.R 4 lo w v (ps.map (·.1)) := by
  obtain ⟨a, c, rfl, h1, h2, h3⟩ := h.own.sl flatD
  refine ⟨a, c, by rw [List.length_map], by rw [List.length_map]; exact h1, h2, fun h0 => ?_⟩
  rw [List.length_map] at h0
  obtain ⟨b, off, hl, ha, h4⟩ := h3 h0
  refine ⟨b, off, hl, ha, fun i x hx => ?_⟩
  rw [List.getElem?_map] at hx
  cases hp : ps[i]? with
  | none => rw [hp] at hx; cases hx
  | some p =>
    rw [hp] at hx
    obtain rfl : p.1 = x := Option.some.inj hx
    obtain ⟨r, ⟨hr1, hr2⟩, hr3⟩ := h4 i p hp
    exact ⟨r, ⟨kidsV p, hr1, hr2, (h.kids p (List.mem_of_getElem? hp)).1⟩, hr3⟩
end Go.Proofs.Ytpblhonnknmjjaa

/- The cursor of a draw. -/
namespace Go.Proofs.Ytpblhonnknmjjaa
open Go.RowKit
set_option linter.unusedVariables false
set_option linter.unusedSimpArgs false
attribute [local go_sem] Ext.cell

theorem and255 (n : Int) : bits .and .i64 n 255 = n % 256 := by
  have h127 : (BitVec.ofInt 64 255).toNat = 2 ^ 8 - 1 := by decide
  have key : (BitVec.ofInt 64 n &&& BitVec.ofInt 64 255).toNat = (n % ((2 ^ 64 : Nat) : Int)).toNat % 2 ^ 8 := by
    rw [BitVec.toNat_and, BitVec.toNat_ofInt, h127, Nat.and_two_pow_sub_one_eq_mod]
  show IntKind.i64.wrap ((BitVec.ofInt 64 n &&& BitVec.ofInt 64 255).toNat : Nat) = n % 256
  rw [key, IntKind.wrap_i64]
  omega
theorem and30 (n : Int) : bits .and .i64 n 1073741823 = n % 1073741824 := by
  have h127 : (BitVec.ofInt 64 1073741823).toNat = 2 ^ 30 - 1 := by decide
  have key : (BitVec.ofInt 64 n &&& BitVec.ofInt 64 1073741823).toNat = (n % ((2 ^ 64 : Nat) : Int)).toNat % 2 ^ 30 := by
    rw [BitVec.toNat_and, BitVec.toNat_ofInt, h127, Nat.and_two_pow_sub_one_eq_mod]
  show IntKind.i64.wrap ((BitVec.ofInt 64 n &&& BitVec.ofInt 64 1073741823).toNat : Nat) = n % 1073741824
  rw [key, IntKind.wrap_i64]
  omega
theorem wrap64_in (n : Int) : I64 (wrap64 n) := by unfold I64 wrap64; constructor <;> omega
/-- A cursor in box b, over bytes that lie in the world W0. -/
structure Cur (W0 w : World) (b : Nat) : Prop where
  ex : ∃ (s : Value) (bs : List UInt8) (i : Nat) (h : Int), RowAt w b 0 [s, .int .i64 (i : Int), .int .i64 h] ∧ Sl ByteR 1 0 W0 s bs ∧ i ≤ bs.length ∧ bs.length ≤ 1048576 ∧ I64 h
  wr : Wr w b 0 3
  below : Below W0.heap.size W0 w
  lo : W0.heap.size ≤ b
/-- What a draw leaves alone. -/
structure DF (W0 : World) (b : Nat) (w w' : World) : Prop where
  cur : Cur W0 w' b
  kept : Kept (· = b) w w'
  size : w.heap.size ≤ w'.heap.size

theorem Cur.lt {W0 w : World} {b : Nat} (h : Cur W0 w b) : b < w.heap.size := let ⟨s, bs, i, x, h1, _⟩ := h.ex; World.block_lt_of_cell? _ _ h1.box3.1

theorem RowAt.putAt {w : World} {b j : Nat} {r : List Value} (h : RowAt w b 0 r) (hj : j < r.length) (u : Value) : RowAt (w.setCell ⟨b, j, none⟩ u) b 0 (r.set j u) := fun i c hc => by
  rw [Nat.zero_add]
  by_cases e : j = i
  · subst e
    rw [List.getElem?_set_self hj] at hc
    obtain rfl := Option.some.inj hc
    have := h j _ (List.getElem?_eq_getElem hj)
    rw [Nat.zero_add] at this
    exact cell_setCell_eq w b j _ this
  · rw [List.getElem?_set_ne e] at hc
    have := h i c hc
    rw [Nat.zero_add] at this
    exact (cell_setCell_ne w b j i _ e).trans this

set_option maxRecDepth 100000 in
set_option maxHeartbeats 8000000 in
theorem l01Byte_c (W0 w : World) (b : Nat) (C : Cur W0 w b) :
    Calls Try.prog 40 #[.pointer (some ⟨b, 0, none⟩)] w fun e w' => ∃ x : Int, e = .returned (.int .i64 x) ∧ 0 ≤ x ∧ x ≤ 255 ∧ DF W0 b w w' := by
  obtain ⟨s, bs, i, h, R, hs, hi, hl, h64⟩ := C.ex
  obtain ⟨a0, c0, rfl, l0, m0, h0⟩ := hs
  have hbl := C.below
  have WR := C.wr
  have hlo := C.lo
  obtain ⟨n, hn⟩ : ∃ n, n = bs.length := ⟨_, rfl⟩
  rw [← hn] at l0 hi hl R
  obtain ⟨r_0, r_1, r_2⟩ := R.box3
  have f_2 := WR.frz 2 (by omega)
  replace hn := Lib.hid hn; replace h0 := Lib.hid h0; replace C := Lib.hid C
  go_enter Try.func40, Try.ntmps40
  go_upto_region 2 with fail
  obtain ⟨h', hh'⟩ : ∃ h', h' = wrap64 (wrap64 (h * 6364136223846793005) + 1442695040888963407) := ⟨_, rfl⟩
  have h64' : I64 h' := by rw [hh']; exact wrap64_in _
  rw [← hh']
  obtain ⟨w1, hW1⟩ : ∃ W, W = w.setCell ⟨b, 2, none⟩ (.int .i64 h') := ⟨_, rfl⟩
  rw [← hW1]
  have R1 : RowAt w1 b 0 [.slice a0 n c0, .int .i64 (i : Int), .int .i64 h'] := by rw [hW1]; exact R.putAt (j := 2) (by simp) _
  have K1 : Kept (· = b) w w1 := by rw [hW1]; exact Kept.set (S := (· = b)) (p := ⟨b, 2, none⟩) (Kept.refl _ _) rfl _
  have W1 : Wr w1 b 0 3 := by rw [hW1]; exact WR.set 2 _
  have hb1 : Below W0.heap.size W0 w1 := by rw [hW1]; exact hbl.setCell (p := ⟨b, 2, none⟩) hlo _
  have hz1 : w.heap.size ≤ w1.heap.size := by rw [hW1]; simp [World.setCell]
  clear hW1 hh' R r_0 r_1 r_2 f_2 WR
  obtain ⟨r_0, r_1, r_2⟩ := R1.box3
  have f_1 := W1.frz 1 (by omega)
  go_region_held3 (fun w' => w'.cell? ⟨b, 2, none⟩ = some (.int .i64 h')) (first | exact r_2 | go_keep) (fail)
  rw [and255]
  obtain ⟨x1, hx1⟩ : ∃ x, x = bits BinOp.xor IntKind.i64 (h' / 8589934592) (h' / 35184372088832) % 256 := ⟨_, rfl⟩
  have hx1a : 0 ≤ x1 := by rw [hx1]; omega
  have hx1b : x1 ≤ 255 := by rw [hx1]; omega
  rw [← hx1]
  clear hx1
  have hdf : ∀ W (k : Nat), Kept (· = b) w1 W → RowAt W b 0 [.slice a0 n c0, .int .i64 (k : Int), .int .i64 h'] → Wr W b 0 3 → Below W0.heap.size W0 W → w1.heap.size ≤ W.heap.size → k ≤ n → DF W0 b w W := fun W k hK hR hW hB hz hk =>
    ⟨⟨⟨_, bs, k, h', hn.out ▸ hR, ⟨a0, c0, rfl, hn.out ▸ l0, m0, h0.out⟩, hn.out ▸ hk, hn.out ▸ hl, h64'⟩, hW, hB, hlo⟩, K1.trans hz1 hK, by omega⟩
  replace hdf := Lib.hid hdf
  by_cases hin : i < n
  · obtain ⟨b1, o1, y, s1, hlt1, rfl, P1, rfl, r1⟩ := (h0.out.below ByteR.good hb1).get hn hin
    rw [Nat.mul_one] at r1
    have q1 := r1.cells1
    have hd : decide ((i : Int) < (n : Int)) = true := decide_eq_true (by omega)
    have hy : (y.toNat : Int) ≤ 255 := by have := y.toNat_lt; omega
    clear r1
    go_upto_region 3 with fail
    go_region_held3 (fun w' => w'.cell? ⟨b, 0, none⟩ = some (.slice (some ⟨b1, o1, none⟩) n c0) ∧ w'.cell? ⟨b, 1, none⟩ = some (.int .i64 (i : Int))) (first | exact ⟨r_0, r_1⟩ | go_keep) (fail)
    go_upto_region 4 with fail
    go_region_held3 (fun w' => w'.cell? ⟨b, 0, none⟩ = some (.slice (some ⟨b1, o1, none⟩) n c0) ∧ w'.cell? ⟨b, 1, none⟩ = some (.int .i64 (i : Int)) ∧ w'.cell? ⟨b1, o1 + i, none⟩ = some (.int .u8 y.toNat)) (first | exact ⟨r_0, r_1, q1⟩ | go_keep) (fail)
    rw [and255]
    obtain ⟨x2, hx2⟩ : ∃ x, x = IntKind.i64.wrap (x1 + IntKind.i64.wrap (y.toNat : Int)) % 256 := ⟨_, rfl⟩
    have hx2a : 0 ≤ x2 := by rw [hx2]; omega
    have hx2b : x2 ≤ 255 := by rw [hx2]; omega
    rw [← hx2]
    clear hx2
    have r_1' : w1.drew.drew.drew.cell? ⟨b, 1, none⟩ = some (.int .i64 (i : Int)) := r_1
    have f_1' : w1.drew.drew.drew.frozen? ⟨b, 1, none⟩ = false := f_1
    go_wp2_with fail
    go_returns
    exact ⟨x2, rfl, hx2a, hx2b, hdf.out _ (i + 1) (Kept.set (S := (· = b)) (p := ⟨b, 1, none⟩) (Kept.refl _ _) rfl _) (by have h := R1.putAt (j := 1) (by simp) (.int .i64 ((i : Int) + 1)); rw [show ((i + 1 : Nat) : Int) = (i : Int) + 1 by omega]; exact h) (W1.set 1 _) (hb1.drew.drew.drew.setCell (p := ⟨b, 1, none⟩) hlo _) (by simp [World.setCell]) (by omega)⟩
  · have hd : decide ((i : Int) < (n : Int)) = false := decide_eq_false (by omega)
    go_upto_region 3 with fail
    go_region_held3 (fun w' => w'.cell? ⟨b, 0, none⟩ = some (.slice a0 n c0) ∧ w'.cell? ⟨b, 1, none⟩ = some (.int .i64 (i : Int))) (first | exact ⟨r_0, r_1⟩ | go_keep) (fail)
    go_wp2_with fail
    go_returns
    exact ⟨x1, rfl, hx1a, hx1b, hdf.out _ i (Kept.refl _ _) R1 W1 hb1.drew.drew (Nat.le_refl _) hi⟩

theorem DF.refl {W0 w : World} {b : Nat} (h : Cur W0 w b) : DF W0 b w w := ⟨h, Kept.refl _ _, Nat.le_refl _⟩
theorem DF.trans {W0 a c d : World} {b : Nat} (h : DF W0 b a c) (h' : DF W0 b c d) : DF W0 b a d := ⟨h'.cur, h.kept.trans h.size h'.kept, Nat.le_trans h.size h'.size⟩
theorem Cur.kept {S : Nat → Prop} {W0 w w' : World} {b : Nat} (h : Cur W0 w b) (hk : Kept S w w') (hS : ¬ S b) (hb : Below W0.heap.size W0 w') : Cur W0 w' b :=
  let ⟨s, bs, i, x, h1, h2⟩ := h.ex
  ⟨⟨s, bs, i, x, h1.kept hk hS, h2⟩, h.wr.kept hk hS, hb, h.lo⟩

set_option maxRecDepth 100000 in
set_option maxHeartbeats 8000000 in
theorem l01Below_c (W0 w : World) (b : Nat) (n : Int) (hn : n ≤ 1073741824) (C : Cur W0 w b) :
    Calls Try.prog 21 #[.pointer (some ⟨b, 0, none⟩), .int .i64 n] w fun e w' => ∃ x : Int, e = .returned (.int .i64 x) ∧ 0 ≤ x ∧ (0 < n → x < n) ∧ (n ≤ 0 → x = 0) ∧ DF W0 b w w' := by
  by_cases h0 : n ≤ 0
  · have hd : decide (n ≤ 0) = true := decide_eq_true h0
    replace C := Lib.hid C
    go_enter Try.func21, Try.ntmps21
    go_wp2_with fail
    go_returns
    exact ⟨0, rfl, by omega, by omega, fun _ => rfl, DF.refl C.out⟩
  · have hd : decide (n ≤ 0) = false := decide_eq_false h0
    have hz : (n == 0) = false := by simp; omega
    have hz' : ¬ n = 0 := by omega
    by_cases h1 : n ≤ 256
    · have hd2 : decide (n ≤ 256) = true := decide_eq_true h1
      replace C := Lib.hid C
      go_enter Try.func21, Try.ntmps21
      go_wp2_with (go_at_call 40; (with_reducible refine (l01Byte_c W0 _ b C.out).mono ?_); rintro e w1 ⟨x, rfl, hx0, hx1, D⟩)
      go_returns
      exact ⟨x % n, rfl, Int.emod_nonneg _ hz', fun h => Int.emod_lt_of_pos _ h, fun h => by omega, D⟩
    · have hd2 : decide (n ≤ 256) = false := decide_eq_false h1
      replace C := Lib.hid C
      go_enter Try.func21, Try.ntmps21
      go_upto_region 6 with (go_at_call 40; (with_reducible refine (l01Byte_c W0 _ b C.out).mono ?_); rintro e w1 ⟨x1, rfl, hx10, hx11, D1⟩)
      go_upto_region 7 with (go_at_call 40; (with_reducible refine (l01Byte_c W0 _ b D1.cur).mono ?_); rintro e w2 ⟨x2, rfl, hx20, hx21, D2⟩)
      go_upto_region 8 with (go_at_call 40; (with_reducible refine (l01Byte_c W0 _ b D2.cur).mono ?_); rintro e w3 ⟨x3, rfl, hx30, hx31, D3⟩)
      go_upto_region 9 with (go_at_call 40; (with_reducible refine (l01Byte_c W0 _ b D3.cur).mono ?_); rintro e w4 ⟨x4, rfl, hx40, hx41, D4⟩)
      have w1' : IntKind.i64.wrap (x1 * 16777216) = x1 * 16777216 := IntWalk.i64_in _ (by omega)
      have w2' : IntKind.i64.wrap (x2 * 65536) = x2 * 65536 := IntWalk.i64_in _ (by omega)
      have w3' : IntKind.i64.wrap (x3 * 256) = x3 * 256 := IntWalk.i64_in _ (by omega)
      go_wp2_with fail
      go_returns
      exact ⟨(x1 * 16777216 + x2 * 65536 + x3 * 256 + x4) % n, rfl, Int.emod_nonneg _ hz', fun h => Int.emod_lt_of_pos _ h, fun h => by omega, ((D1.trans D2).trans D3).trans D4⟩

set_option maxRecDepth 100000 in
set_option maxHeartbeats 8000000 in
theorem l01New_c (W0 w : World) (u : Value) (bs : List UInt8) (hu : Sl ByteR 1 0 W0 u bs) (hlen : bs.length ≤ 1048576) (hb : Below W0.heap.size W0 w) :
    Calls Try.prog 19 #[u] w fun e w' => ∃ b, e = .returned (.pointer (some ⟨b, 0, none⟩)) ∧ w.heap.size ≤ b ∧ Cur W0 w' b ∧ Below w.heap.size w w' := by
  have Hu := hu
  obtain ⟨a0, c0, rfl, l0, m0, h0⟩ := hu
  obtain ⟨n, hn⟩ : ∃ n, n = bs.length := ⟨_, rfl⟩
  rw [← hn] at l0 hlen ⊢
  have hz := hb.size
  replace hn := Lib.hid hn; replace h0 := Lib.hid h0; replace Hu := Lib.hid Hu; replace hb := Lib.hid hb
  go_enter Try.func19, Try.ntmps19
  go_wp2_with fail
  go_loopw [3, 4] (fun hh i wr => ∃ (x : Int) (k : Nat), k ≤ n ∧ 0 ≤ x ∧ x ≤ 2147483647 ∧ hh = .int .i64 x ∧ i = .int .i64 (k : Int) ∧ wr = w) (fun _ i _ => n - (intOf i).toNat)
  case atStart => exact ⟨792393 + (n : Int), 0, by omega, by omega, by omega, rfl, rfl, rfl⟩
  case round =>
    obtain ⟨x, k, hk, hx0, hx1, rfl, rfl, rfl⟩ := hrel
    have w1' : IntKind.i64.wrap (x * 139) = x * 139 := IntWalk.i64_in _ (by omega)
    by_cases hlt : k < n ∧ k < 4000
    · obtain ⟨h1, h2⟩ := hlt
      have hd1 : decide ((k : Int) < (n : Int)) = true := decide_eq_true (by omega)
      have hd2 : decide ((k : Int) < 4000) = true := decide_eq_true (by omega)
      obtain ⟨b1, o1, y, s1, _, rfl, P1, rfl, r1⟩ := (h0.out.below ByteR.good hb.out).get hn h1
      rw [Nat.mul_one] at r1
      have q1 := r1.cells1
      have hy : (y.toNat : Int) ≤ 255 := by have := y.toNat_lt; omega
      have w2' : IntKind.i64.wrap (y.toNat : Int) = (y.toNat : Int) := IntWalk.i64_in _ (by omega)
      clear r1
      go_wp2_with fail
      go_roundw
      case rel => exact ⟨_, k + 1, by omega, by rw [and30]; omega, by rw [and30]; omega, rfl, by go_num, by first | trivial | rfl⟩
      case measure => simp [intOf]; omega
    · have hend : ∀ W, W = wr.alloc (.cells #[.slice a0 n c0, .int .i64 0, .int .i64 x] 69) → Cur W0 W wr.heap.size ∧ Below wr.heap.size wr W := fun W hW => by
        rw [hW]
        exact ⟨⟨⟨_, bs, 0, x, RowAt.box wr #[_, _, _] _, hn.out ▸ Hu.out, by omega, hn.out ▸ hlen, by constructor <;> omega⟩, Wr.box wr #[_, _, _] _, Below.alloc hb.out hz _, hz⟩, Below.alloc (Below.refl _ _) (Nat.le_refl _) _⟩
      replace hend := Lib.hid hend
      by_cases h1 : k < n
      · have h2 : ¬ k < 4000 := fun h => hlt ⟨h1, h⟩
        have hd1 : decide ((k : Int) < (n : Int)) = true := decide_eq_true (by omega)
        have hd2 : decide ((k : Int) < 4000) = false := decide_eq_false (by omega)
        go_wp2_with fail
        go_returns
        obtain ⟨g1, g2⟩ := hend.out _ rfl
        exact ⟨_, rfl, Nat.le_refl _, g1, g2⟩
      · have hd1 : decide ((k : Int) < (n : Int)) = false := decide_eq_false (by omega)
        go_wp2_with fail
        go_returns
        obtain ⟨g1, g2⟩ := hend.out _ rfl
        exact ⟨_, rfl, Nat.le_refl _, g1, g2⟩

end Go.Proofs.Ytpblhonnknmjjaa

/- The reference's reader of values: its box, l21Take, l21Is, l21Word. -/
namespace Go.Proofs.Ytpblhonnknmjjaa
open Go.RowKit
set_option linter.unusedVariables false
set_option linter.unusedSimpArgs false
attribute [local go_sem] Ext.cell

/-- A reader in box b: over s, at a place, bad or not. -/
structure RdS (w : World) (b : Nat) (s : ByteArray) (at_ : Nat) (bad : Bool) : Prop where
  row : RowAt w b 0 [.string s, .int .i64 (at_ : Int), .bool bad]
  wr : Wr w b 0 3
/-- What a step of the reader leaves alone. -/
structure RdF (b : Nat) (w w' : World) : Prop where
  kept : Kept (· = b) w w'
  below : Below b w w'
theorem RdF.size {b : Nat} {w w' : World} (h : RdF b w w') : w.heap.size ≤ w'.heap.size := h.below.size
theorem RdF.refl (b : Nat) (w : World) : RdF b w w := ⟨Kept.refl _ _, Below.refl _ _⟩
theorem RdF.trans {b : Nat} {a c d : World} (h : RdF b a c) (h' : RdF b c d) : RdF b a d := ⟨h.kept.trans h.size h'.kept, h.below.trans h'.below⟩
theorem RdF.of {b : Nat} {w w' : World} (h : Below w.heap.size w w') (hb : b ≤ w.heap.size) : RdF b w w' := ⟨Kept.below h, h.mono hb⟩
theorem RdF.set {b : Nat} {w w' : World} (h : RdF b w w') (o : Nat) (u : Value) : RdF b w (w'.setCell ⟨b, o, none⟩ u) := ⟨h.kept.set (p := ⟨b, o, none⟩) rfl u, h.below.setCell (p := ⟨b, o, none⟩) (Nat.le_refl _) u⟩
theorem RdS.lt {w : World} {b : Nat} {s : ByteArray} {at_ : Nat} {bad : Bool} (h : RdS w b s at_ bad) : b < w.heap.size := World.block_lt_of_cell? _ _ h.row.box3.1
theorem RdS.below {w w' : World} {b : Nat} {s : ByteArray} {at_ : Nat} {bad : Bool} (h : RdS w b s at_ bad) (hb : Below w.heap.size w w') : RdS w' b s at_ bad := ⟨h.row.below hb, h.wr.below hb⟩
theorem RdS.kept {S : Nat → Prop} {w w' : World} {b : Nat} {s : ByteArray} {at_ : Nat} {bad : Bool} (h : RdS w b s at_ bad) (hk : Kept S w w') (hS : ¬ S b) : RdS w' b s at_ bad := ⟨h.row.kept hk hS, h.wr.kept hk hS⟩
theorem RdS.drew {w : World} {b : Nat} {s : ByteArray} {at_ : Nat} {bad : Bool} (h : RdS w b s at_ bad) : RdS w.drew b s at_ bad := h.below (Below.refl _ w).drew
theorem RdS.setAt {w : World} {b : Nat} {s : ByteArray} {at_ k : Nat} {bad : Bool} (h : RdS w b s at_ bad) : RdS (w.setCell ⟨b, 1, none⟩ (.int .i64 (k : Int))) b s k bad := ⟨h.row.putAt (j := 1) (by simp) _, h.wr.set 1 _⟩
theorem RdS.setBad {w : World} {b : Nat} {s : ByteArray} {at_ : Nat} {bad : Bool} (h : RdS w b s at_ bad) (q : Bool) : RdS (w.setCell ⟨b, 2, none⟩ (.bool q)) b s at_ q := ⟨h.row.putAt (j := 2) (by simp) _, h.wr.set 2 _⟩

/-- The place that the reader's box holds. -/
def placeOf (b : Nat) (w : World) : Nat := match w.cell? ⟨b, 1, none⟩ with
  | some (.int _ z) => z.toNat
  | _ => 0
theorem RdS.place {w : World} {b : Nat} {s : ByteArray} {at_ : Nat} {bad : Bool} (h : RdS w b s at_ bad) : placeOf b w = at_ := by
  unfold placeOf
  rw [h.row.box3.2.1]
  simp
/-- What stands from a place on. -/
def fromB (s : ByteArray) (k : Nat) : List UInt8 := s.data.toList.drop k
theorem isAt_take (t l : List UInt8) : isAt t l = (l.take t.length == t) := by
  unfold isAt
  rw [Bool.eq_iff_iff, List.isPrefixOf_iff_prefix, beq_iff_eq, List.prefix_iff_eq_take]
  exact eq_comm
theorem isAt_far {s t : ByteArray} {k : Nat} (h0 : 0 < t.size) (h : s.size < k + t.size) : isAt t.data.toList (fromB s k) = false := by
  rw [isAt_take, beq_eq_false_iff_ne]
  intro e
  have := congrArg List.length e
  unfold fromB at this
  rw [List.length_take, List.length_drop] at this
  have e1 : s.data.toList.length = s.size := rfl
  have e2 : t.data.toList.length = t.size := rfl
  omega
theorem isAt_near {s t : ByteArray} {k : Nat} (h : k + t.size ≤ s.size) : ((s.extract k (k + t.size)).toList == t.toList) = isAt t.data.toList (fromB s k) := by
  rw [isAt_take, ByteArray.toList_eq, ByteArray.toList_eq, ByteArray.data_extract, Array.toList_extract]
  unfold fromB
  have e2 : k + t.size - k = t.data.toList.length := by show k + t.size - k = t.size; omega
  show ((s.data.toList.drop k).take (k + t.size - k) == _) = _
  rw [e2]

set_option maxRecDepth 100000 in
set_option maxHeartbeats 4000000 in
theorem l21Is_c (s t : ByteArray) (k b : Nat) (bad : Bool) (hs : s.size ≤ 1048576) (ht : t.size ≤ 1048576) (ht0 : 0 < t.size) (hk : k ≤ 2097152) (w : World) (R : RdS w b s k bad) :
    Calls Try.prog 83 #[.pointer (some ⟨b, 0, none⟩), .string t] w fun e w' => e = .returned (.bool (isAt t.data.toList (fromB s k))) ∧ RdS w' b s k bad ∧ RdF b w w' := by
  obtain ⟨r_0, r_1, r_2⟩ := R.row.box3
  have hbl := R.lt
  have p1 : IntKind.i64.wrap ((k : Int) + (t.size : Int)) = (k : Int) + (t.size : Int) := IntWalk.i64_in _ (by omega)
  by_cases hf : s.size < k + t.size
  · rw [isAt_far ht0 hf]
    have d1 : decide ((k : Int) + (t.size : Int) ≤ (s.size : Int)) = false := decide_eq_false (by omega)
    go_enter Try.func83, Try.ntmps83
    go_upto_region 1 with fail
    (refine wp_region_ext_lit (by kernel_rfl) (by kernel_rfl) ?_; (repeat (any_goals (first | go_big_quiet_step (fail) | quiet_step (fail) | (refine wpQuiet_step (fun K hK => ?_); go_simp; split <;> (refine hK _ ?_; clear hK K))))); all_goals (refine wpQuiet_nil ?_; rintro w1 ⟨⟨_, hb1⟩, rfl⟩))
    go_wp2_with fail
    go_returns
    exact ⟨rfl, R.below hb1, RdF.of hb1 (by omega)⟩
  · rw [← isAt_near (by omega : k + t.size ≤ s.size)]
    have d1 : decide ((k : Int) + (t.size : Int) ≤ (s.size : Int)) = true := decide_eq_true (by omega)
    have q1 : (0 : Int) ≤ (k : Int) + (t.size : Int) := by omega
    have q2 : (k : Int) ≤ (k : Int) + (t.size : Int) := by omega
    have q3 : (k : Int) + (t.size : Int) ≤ (s.size : Int) := by omega
    have q4 : ((k : Int) + (t.size : Int)).toNat = k + t.size := by omega
    go_enter Try.func83, Try.ntmps83
    go_upto_region 1 with fail
    (refine wp_region_ext_lit (by kernel_rfl) (by kernel_rfl) ?_; (repeat (any_goals (first | go_big_quiet_step (fail) | quiet_step (fail) | (refine wpQuiet_step (fun K hK => ?_); go_simp; split <;> (refine hK _ ?_; clear hK K))))); all_goals (refine wpQuiet_nil ?_; rintro w1 ⟨⟨_, hb1⟩, rfl⟩))
    go_wp2_with fail
    go_returns
    exact ⟨rfl, R.below hb1, RdF.of hb1 (by omega)⟩

set_option maxRecDepth 100000 in
set_option maxHeartbeats 4000000 in
theorem l21Take_c (s t : ByteArray) (k b : Nat) (bad : Bool) (hs : s.size ≤ 1048576) (ht : t.size ≤ 1048576) (ht0 : 0 < t.size) (hk : k ≤ 2097152) (w : World) (R : RdS w b s k bad) :
    Calls Try.prog 82 #[.pointer (some ⟨b, 0, none⟩), .string t] w fun e w' => e = .returned (.tuple #[]) ∧ RdS w' b s (if isAt t.data.toList (fromB s k) then k + t.size else k) (if isAt t.data.toList (fromB s k) then bad else true) ∧ RdF b w w' := by
  obtain ⟨r_0, r_1, r_2⟩ := R.row.box3
  have hbl := R.lt
  have p1 : IntKind.i64.wrap ((k : Int) + (t.size : Int)) = (k : Int) + (t.size : Int) := IntWalk.i64_in _ (by omega)
  by_cases hf : s.size < k + t.size
  · rw [isAt_far ht0 hf]
    have d1 : decide ((s.size : Int) < (k : Int) + (t.size : Int)) = true := decide_eq_true (by omega)
    go_enter Try.func82, Try.ntmps82
    go_upto_region 0 with fail
    (refine wp_region_ext_lit (by kernel_rfl) (by kernel_rfl) ?_; (repeat (any_goals (first | go_big_quiet_step (fail) | quiet_step (fail) | (refine wpQuiet_step (fun K hK => ?_); go_simp; split <;> (refine hK _ ?_; clear hK K))))); all_goals (refine wpQuiet_nil ?_; rintro w1 ⟨⟨_, hb1⟩, rfl⟩))
    have R1 := R.below hb1
    obtain ⟨m_0, m_1, m_2⟩ := R1.row.box3
    have f_2 := R1.wr.frz 2 (by omega)
    replace R1 := Lib.hid R1
    go_wp2_with fail
    go_returns
    exact ⟨rfl, R1.out.setBad true, (RdF.of hb1 (by omega)).set 2 _⟩
  · have d1 : decide ((s.size : Int) < (k : Int) + (t.size : Int)) = false := decide_eq_false (by omega)
    have q1 : (0 : Int) ≤ (k : Int) + (t.size : Int) := by omega
    have q2 : (k : Int) ≤ (k : Int) + (t.size : Int) := by omega
    have q3 : (k : Int) + (t.size : Int) ≤ (s.size : Int) := by omega
    have q4 : ((k : Int) + (t.size : Int)).toNat = k + t.size := by omega
    have hn := isAt_near (by omega : k + t.size ≤ s.size)
    rw [← hn]
    clear hn
    cases hE : ((s.extract k (k + t.size)).toList == t.toList)
    · go_enter Try.func82, Try.ntmps82
      go_upto_region 0 with fail
      (refine wp_region_ext_lit (by kernel_rfl) (by kernel_rfl) ?_; (repeat (any_goals (first | go_big_quiet_step (fail) | quiet_step (fail) | (refine wpQuiet_step (fun K hK => ?_); go_simp; split <;> (refine hK _ ?_; clear hK K))))); all_goals (refine wpQuiet_nil ?_; rintro w1 ⟨⟨_, hb1⟩, rfl⟩))
      have R1 := R.below hb1
      obtain ⟨m_0, m_1, m_2⟩ := R1.row.box3
      have f_2 := R1.wr.frz 2 (by omega)
      replace R1 := Lib.hid R1
      go_wp2_with fail
      go_returns
      exact ⟨rfl, R1.out.setBad true, (RdF.of hb1 (by omega)).set 2 _⟩
    · go_enter Try.func82, Try.ntmps82
      go_upto_region 0 with fail
      (refine wp_region_ext_lit (by kernel_rfl) (by kernel_rfl) ?_; (repeat (any_goals (first | go_big_quiet_step (fail) | quiet_step (fail) | (refine wpQuiet_step (fun K hK => ?_); go_simp; split <;> (refine hK _ ?_; clear hK K))))); all_goals (refine wpQuiet_nil ?_; rintro w1 ⟨⟨_, hb1⟩, rfl⟩))
      have R1 := R.below hb1
      obtain ⟨m_0, m_1, m_2⟩ := R1.row.box3
      have f_1 := R1.wr.frz 1 (by omega)
      replace R1 := Lib.hid R1
      go_wp2_with fail
      go_returns
      have R2 := R1.out.setAt (k := k + t.size)
      exact ⟨rfl, by simpa using R2, (RdF.of hb1 (by omega)).set 1 _⟩

/-! ### A word -/
theorem fromB_cons {s : ByteArray} {k : Nat} (h : k < s.size) : fromB s k = s[k] :: fromB s (k + 1) := by
  unfold fromB
  rw [List.drop_eq_getElem_cons (show k < s.data.toList.length from h), byte_at h]
theorem fromB_nil {s : ByteArray} {k : Nat} (h : s.size ≤ k) : fromB s k = [] := List.drop_of_length_le h
theorem wOf_stop {s : ByteArray} {k : Nat} (h : k < s.size) (hb : stopB s[k] = true) : wOf (fromB s k) = [] ∧ wRest (fromB s k) = fromB s k := by
  rw [fromB_cons h]; simp [wOf, wRest, hb]
theorem wOf_go {s : ByteArray} {k : Nat} (h : k < s.size) (hb : stopB s[k] = false) : wOf (fromB s k) = s[k] :: wOf (fromB s (k + 1)) ∧ wRest (fromB s k) = wRest (fromB s (k + 1)) := by
  rw [fromB_cons h]; simp [wOf, wRest, hb]
theorem wOf_nil {s : ByteArray} {k : Nat} (h : s.size ≤ k) : wOf (fromB s k) = [] ∧ wRest (fromB s k) = [] := by rw [fromB_nil h]; exact ⟨rfl, rfl⟩
theorem fromB_drop (s : ByteArray) (k j : Nat) : (fromB s k).drop j = fromB s (k + j) := by unfold fromB; rw [List.drop_drop]
theorem wRest_from (l : List UInt8) : wRest l = l.drop (wOf l).length := by
  unfold wRest wOf
  induction l with
  | nil => rfl
  | cons b l ih =>
    rw [List.takeWhile_cons, List.dropWhile_cons]
    split
    · simp [ih]
    · rfl
theorem wRest_at (s : ByteArray) (k : Nat) : wRest (fromB s k) = fromB s (k + (wOf (fromB s k)).length) := by rw [wRest_from, fromB_drop]
theorem extract_word (s : ByteArray) (k : Nat) : s.extract k (k + (wOf (fromB s k)).length) = ⟨(wOf (fromB s k)).toArray⟩ := by
  apply ByteArray.ext
  apply Array.ext'
  rw [ByteArray.data_extract, Array.toList_extract]
  show ((fromB s k).take (k + (wOf (fromB s k)).length - k)) = wOf (fromB s k)
  rw [Nat.add_sub_cancel_left]
  have : wOf (fromB s k) <+: fromB s k := List.takeWhile_prefix _
  exact (List.prefix_iff_eq_take.1 this).symm
theorem wOf_le (s : ByteArray) {k : Nat} (h : k ≤ s.size) : k + (wOf (fromB s k)).length ≤ s.size := by
  have : wOf (fromB s k) <+: fromB s k := List.takeWhile_prefix _
  have := this.length_le
  unfold fromB at this ⊢
  rw [List.length_drop] at this
  have e1 : s.data.toList.length = s.size := rfl
  omega
theorem stop_ways {x : UInt8} : (stopB x = false ∧ ((x.toNat : Int) != 32) = true ∧ ((x.toNat : Int) != 44) = true ∧ ((x.toNat : Int) != 41) = true ∧ ((x.toNat : Int) != 40) = true) ∨
    (stopB x = true ∧ (((x.toNat : Int) != 32) = false ∨ (((x.toNat : Int) != 32) = true ∧ ((x.toNat : Int) != 44) = false) ∨ (((x.toNat : Int) != 32) = true ∧ ((x.toNat : Int) != 44) = true ∧ ((x.toNat : Int) != 41) = false) ∨ (((x.toNat : Int) != 32) = true ∧ ((x.toNat : Int) != 44) = true ∧ ((x.toNat : Int) != 41) = true ∧ ((x.toNat : Int) != 40) = false))) := by
  have e : ∀ c : UInt8, (x == c) = !((x.toNat : Int) != (c.toNat : Int)) := fun c => by
    by_cases h : x = c
    · subst h; simp
    · have : (x.toNat : Int) ≠ (c.toNat : Int) := fun h' => h (UInt8.toNat_inj.1 (by omega))
      rw [bne_iff_ne.2 this, beq_eq_false_iff_ne.2 h]; rfl
  have hs : stopB x = (!((x.toNat : Int) != 32) || !((x.toNat : Int) != 44) || !((x.toNat : Int) != 41) || !((x.toNat : Int) != 40)) := by unfold stopB; rw [e 32, e 44, e 41, e 40]; rfl
  rw [hs]
  cases ((x.toNat : Int) != 32) <;> cases ((x.toNat : Int) != 44) <;> cases ((x.toNat : Int) != 41) <;> cases ((x.toNat : Int) != 40) <;> simp

set_option maxRecDepth 100000 in
set_option maxHeartbeats 8000000 in
theorem l21Word_c (s : ByteArray) (k b : Nat) (bad : Bool) (hs : s.size ≤ 1048576) (hk : k ≤ s.size) (w : World) (R : RdS w b s k bad) :
    Calls Try.prog 63 #[.pointer (some ⟨b, 0, none⟩)] w fun e w' => e = .returned (.string ⟨(wOf (fromB s k)).toArray⟩) ∧ RdS w' b s (k + (wOf (fromB s k)).length) bad ∧ RdF b w w' := by
  obtain ⟨r_0, r_1, r_2⟩ := R.row.box3
  have hbl := R.lt
  have hex := extract_word s k
  have hle := wOf_le s hk
  obtain ⟨q, hq⟩ : ∃ q, q = k + (wOf (fromB s k)).length := ⟨_, rfl⟩
  have hq0 : Hid (k + (wOf (fromB s k)).length = q) := hq.symm
  rw [← hq] at hex hle ⊢
  rw [← hex]
  clear hex
  have hkq : k ≤ q := by omega
  replace hq := Lib.hid hq
  go_enter Try.func63, Try.ntmps63
  go_wp2_with fail
  go_loopw [65] (fun z wr => ∃ p : Nat, k ≤ p ∧ p ≤ q ∧ Hid (p + (wOf (fromB s p)).length = q) ∧ RdS wr b s p bad ∧ RdF b w wr) (fun _ wr => s.size - placeOf b wr)
  case atStart => exact ⟨k, by omega, by omega, hq0, R, RdF.refl _ _⟩
  case round =>
    clear r_0 r_1 r_2 R hbl
    obtain ⟨p, hp0, hp1, hpq, R, F⟩ := hrel
    obtain ⟨r_0, r_1, r_2⟩ := R.row.box3
    have hbl := R.lt
    have hpl := R.place
    have go : p < s.size → True := fun _ => trivial
    by_cases hlt : p < s.size
    · have hw := stop_ways (x := s[p])
      have g1 := wOf_go hlt
      have g2 := wOf_stop hlt
      have d1 : decide ((p : Int) < (s.size : Int)) = true := decide_eq_true (by omega)
      rcases hw with ⟨hb, e1, e2, e3, e4⟩ | ⟨hb, hw⟩
      · have h1 := (g1 hb).1
        have hpq1 : Hid (p + 1 + (wOf (fromB s (p + 1))).length = q) := by
          show _ = _
          have h := hpq.out
          rw [h1] at h
          simp only [List.length_cons] at h
          omega
        have hpq2 : p + 1 ≤ q := by have := hpq1.out; omega
        replace hpl := Lib.hid hpl
        clear h1 g1 g2
        go_upto_region 2 with fail
        (refine wp_region_ext_lit (by kernel_rfl) (by kernel_rfl) ?_; (repeat (any_goals (first | go_big_quiet_step (fail) | quiet_step (fail) | (refine wpQuiet_step (fun K hK => ?_); go_simp; split <;> (refine hK _ ?_; clear hK K))))); all_goals (refine wpQuiet_nil ?_; rintro w1 ⟨⟨_, hb1⟩, rfl⟩))
        have R1 := R.below hb1
        obtain ⟨m_0, m_1, m_2⟩ := R1.row.box3
        have f_1 := R1.wr.frz 1 (by omega)
        have hbl1 := R1.lt
        have hw1 := hb1.size
        go_wp2_with fail
        have R2 := R1.setAt (k := p + 1)
        rw [show ((p + 1 : Nat) : Int) = (p : Int) + 1 by omega] at R2
        have hpl2 := R2.place
        go_roundw
        case rel => exact ⟨p + 1, by omega, hpq2, hpq1, R2, F.trans ((RdF.of hb1 (by omega)).set 1 _)⟩
        case measure => rw [hpl2, hpl.out]; omega
      · have h1 := (g2 hb).1
        have hpe : p = q := by have h := hpq.out; rw [h1] at h; exact h
        clear h1 g1 g2 hpq
        subst hpe
        replace hpl := Lib.hid hpl
        rcases hw with e1 | ⟨e1, e2⟩ | ⟨e1, e2, e3⟩ | ⟨e1, e2, e3, e4⟩
        all_goals
          go_upto_region 2 with fail
          (refine wp_region_ext_lit (by kernel_rfl) (by kernel_rfl) ?_; (repeat (any_goals (first | go_big_quiet_step (fail) | quiet_step (fail) | (refine wpQuiet_step (fun K hK => ?_); go_simp; split <;> (refine hK _ ?_; clear hK K))))); all_goals (refine wpQuiet_nil ?_; rintro w1 ⟨⟨_, hb1⟩, rfl⟩))
          have R1 := R.below hb1
          obtain ⟨m_0, m_1, m_2⟩ := R1.row.box3
          have hbl1 := R1.lt
          have hw1 := hb1.size
          go_upto_region 4 with fail
          (refine wp_region_ext_lit (by kernel_rfl) (by kernel_rfl) ?_; (repeat (any_goals (first | go_big_quiet_step (fail) | quiet_step (fail) | (refine wpQuiet_step (fun K hK => ?_); go_simp; split <;> (refine hK _ ?_; clear hK K))))); all_goals (refine wpQuiet_nil ?_; rintro w2 ⟨⟨_, hb2⟩, rfl⟩))
          go_wp2_with fail
          go_returns
          exact ⟨rfl, R1.below hb2, F.trans ((RdF.of hb1 (by omega)).trans (RdF.of hb2 (by omega)))⟩
    · have hpe : p = q := by have h := hpq.out; rw [(wOf_nil (by omega : s.size ≤ p)).1] at h; exact h
      clear hpq
      subst hpe
      have d1 : decide ((p : Int) < (s.size : Int)) = false := decide_eq_false (by omega)
      replace hpl := Lib.hid hpl
      go_upto_region 2 with fail
      (refine wp_region_ext_lit (by kernel_rfl) (by kernel_rfl) ?_; (repeat (any_goals (first | go_big_quiet_step (fail) | quiet_step (fail) | (refine wpQuiet_step (fun K hK => ?_); go_simp; split <;> (refine hK _ ?_; clear hK K))))); all_goals (refine wpQuiet_nil ?_; rintro w1 ⟨⟨_, hb1⟩, rfl⟩))
      have R1 := R.below hb1
      obtain ⟨m_0, m_1, m_2⟩ := R1.row.box3
      have hbl1 := R1.lt
      have hw1 := hb1.size
      go_upto_region 4 with fail
      (refine wp_region_ext_lit (by kernel_rfl) (by kernel_rfl) ?_; (repeat (any_goals (first | go_big_quiet_step (fail) | quiet_step (fail) | (refine wpQuiet_step (fun K hK => ?_); go_simp; split <;> (refine hK _ ?_; clear hK K))))); all_goals (refine wpQuiet_nil ?_; rintro w2 ⟨⟨_, hb2⟩, rfl⟩))
      go_wp2_with fail
      go_returns
      exact ⟨rfl, R1.below hb2, F.trans ((RdF.of hb1 (by omega)).trans (RdF.of hb2 (by omega)))⟩
end Go.Proofs.Ytpblhonnknmjjaa

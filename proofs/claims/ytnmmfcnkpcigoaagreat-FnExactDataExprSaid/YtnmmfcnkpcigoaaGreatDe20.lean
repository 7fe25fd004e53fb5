/- Parts of the proof, merged: GrowData, Dx. -/
import Derived.Deep.RegionHeld3
import Derived.Deep.RegionLaw
import Derived.Test.YtnmmfcnkpcigoaaGreatDe19
/- The program's growData: the tree of a value's node. -/
namespace Go.Proofs.YtnmmfcnkpcigoaaGreat
open Go.RowKit
set_option linter.unusedVariables false
set_option linter.unusedSimpArgs false
attribute [local go_sem] Ext.cell

theorem info_px : (Tryz.prog.info? 57).map (fun i => (i.zero, i.size, i.bytes)) = some (some (.pointer none), 1, 8) := by kernel_rfl

set_option maxRecDepth 100000 in
set_option maxHeartbeats 8000000 in
theorem growData_c (l : List GDNode) (hU : Up l) (hfew : ∀ (j : Nat) x, l[j]? = some x → x.kids.length ≤ 2) (hL : l.length ≤ 600) : ∀ (f i : Nat) (u : Value) (lo : Nat) (w : World), Sl GDNode.R 4 lo w u l → i < l.length → l.length ≤ i + f →
    Calls Tryz.prog 21 #[u, .int .i64 i] w fun e w' => ∃ b, e = .returned (.pointer (some ⟨b, 0, none⟩)) ∧ PxR f (fun b => w.heap.size ≤ b) w' (.pointer (some ⟨b, 0, none⟩)) (treeOf l f i) ∧ Below w.heap.size w w'
  | 0, i, u, lo, w, hu, hi, hf => absurd hf (by omega)
  | f + 1, i, u, lo, w, hu, hi, hf => by
    have ih := growData_c l hU hfew hL f
    have Hu := hu
    obtain ⟨a, c, rfl, ul, um, h0⟩ := hu
    obtain ⟨b1, o1, x, s1, _, rfl, P1, hx, r1⟩ := h0.get (Lib.hid rfl) hi
    have P1 := P1.out
    have hT := treeOf_some (f := f) P1
    have hup := hU i x P1
    have hf2 := hfew i x P1
    obtain ⟨kd, nn, s, ks⟩ := x
    obtain ⟨u0, rfl, hwf, hkd⟩ := hx
    obtain ⟨ka, kc, rfl, kl, km, k0⟩ := hkd
    dsimp only at *
    obtain ⟨m, hm⟩ : ∃ m, m = ks.length := ⟨_, rfl⟩
    rw [← hm] at r1 kl hf2
    replace hm := Lib.hid hm
    obtain ⟨e_0, e_1, e_2, e_3⟩ := r1.cells4
    obtain ⟨i0, hi0, hz0, hz1, hz2⟩ := info_parts info_px
    have I := Lib.hid hi0; have I0 := Lib.hid hz0; have I1 := Lib.hid hz1; have I2 := Lib.hid hz2
    clear r1 hi0 hz0 hz1 hz2 P1 h0
    replace k0 := Lib.hid k0; replace hup := Lib.hid hup; replace ih := Lib.hid ih; replace hT := Lib.hid hT
    replace Hu := Lib.hid Hu
    clear hU hfew
    generalize hn : l.length = n at *
    replace hn := Lib.hid hn
    go_enter Tryz.func21, Tryz.ntmps21
    go_upto_region 4 with fail
    have hfz : ((w.alloc (.cells #[.int .i64 kd, .int .i64 nn, .string s, .slice ka m kc] 69)).alloc (.cells #[.int .i64 kd, .int .i64 nn, .string s, .slice none 0 0] 93)).frozen? ⟨w.heap.size + 1, 3, none⟩ = false := by go_simp
    have N : RowAt (w.alloc (.cells #[.int .i64 kd, .int .i64 nn, .string s, .slice ka m kc] 69)) (w.heap.size) 0 [.int .i64 kd, .int .i64 nn, .string s, .slice ka m kc] := RowAt.box w #[.int .i64 kd, .int .i64 nn, .string s, .slice ka m kc] 69
    have N := N.below (show Below (w.alloc (.cells #[.int .i64 kd, .int .i64 nn, .string s, .slice ka m kc] 69)).heap.size (w.alloc (.cells #[.int .i64 kd, .int .i64 nn, .string s, .slice ka m kc] 69)) ((w.alloc (.cells #[.int .i64 kd, .int .i64 nn, .string s, .slice ka m kc] 69)).alloc (.cells #[.int .i64 kd, .int .i64 nn, .string s, .slice none 0 0] 93)) by go_grown)
    have O : RowAt ((w.alloc (.cells #[.int .i64 kd, .int .i64 nn, .string s, .slice ka m kc] 69)).alloc (.cells #[.int .i64 kd, .int .i64 nn, .string s, .slice none 0 0] 93)) (w.heap.size + 1) 0 [.int .i64 kd, .int .i64 nn, .string s, .slice none 0 0] := by have h := RowAt.box (w.alloc (.cells #[.int .i64 kd, .int .i64 nn, .string s, .slice ka m kc] 69)) #[.int .i64 kd, .int .i64 nn, .string s, .slice none 0 0] 93; simp only [World.size_alloc] at h; exact h
    have hw : Below w.heap.size w ((w.alloc (.cells #[.int .i64 kd, .int .i64 nn, .string s, .slice ka m kc] 69)).alloc (.cells #[.int .i64 kd, .int .i64 nn, .string s, .slice none 0 0] 93)) := by go_grown
    generalize ((w.alloc (.cells #[.int .i64 kd, .int .i64 nn, .string s, .slice ka m kc] 69)).alloc (.cells #[.int .i64 kd, .int .i64 nn, .string s, .slice none 0 0] 93)) = w0 at *
    have hO := O.box4.1
    go_loopw [24] (fun ii wr => ∃ (j : Nat) (vs : List Value) (v : Value), j ≤ m ∧ ii = .int .i64 j ∧ Below w.heap.size w wr ∧ RowAt wr (w.heap.size + 1) 0 [.int .i64 kd, .int .i64 nn, .string s, v] ∧ wr.frozen? ⟨w.heap.size + 1, 3, none⟩ = false ∧
        Hid (KidsOwn wr (w.heap.size + 2) 57 f vs ((ks.take j).map fun k => treeOf l f k.toNat) v) ∧ w.heap.size + 2 ≤ wr.heap.size) (fun ii _ => m - (intOf ii).toNat)
    case atStart => exact ⟨0, [], _, by omega, rfl, hw, O, hfz, KidsOwn.nil _ _ _ _, World.block_lt_of_cell? _ _ hO⟩
    case round =>
      clear hO O N hw hfz
      obtain ⟨j, vs, v, hj, rfl, hw, O, hfz, hK, hz⟩ := hrel
      obtain ⟨ma, mcap, rfl⟩ := hK.out.form
      by_cases hjm : j < m
      · obtain ⟨b2, o2, k, s2, _, rfl, P2, ⟨rfl, hk64⟩, r2⟩ := ((k0.out.below IntR.good hw).get hm hjm)
        have e0 : wr.cell? ⟨b2, o2 + j, none⟩ = some (.int .i64 k) := by simpa using r2 0 _ rfl
        have hk := hup.out k (List.mem_of_getElem? P2.out)
        obtain ⟨q, rfl⟩ : ∃ q : Nat, k = q := ⟨k.toNat, by omega⟩
        have hst : (ks.take (j + 1)).map (fun k => treeOf l f k.toNat) = (ks.take j).map (fun k => treeOf l f k.toNat) ++ [treeOf l f q] := by rw [take_snoc' P2.out]; simp
        have hlen : ((ks.take j).map fun k => treeOf l f k.toNat).length = j := by have := hm.out; simp; omega
        have hc := fun W (hW : Below w.heap.size w W) => ih.out q (.slice (some ⟨b1, o1, none⟩) n c) lo W (Hu.out.below GDNode.good hW) (by have := hn.out; omega) (by have := hn.out; omega)
        rw [hlen] at O
        replace hc := Lib.hid hc
        obtain ⟨o_0, o_1, o_2, o_3⟩ := O.box4
        have hw2 := hw.size
        clear r2 P2
        replace hK : Hid (KidsOwn wr (w.heap.size + 2) 57 f vs ((ks.take j).map fun k => treeOf l f k.toNat) (.slice ma j mcap)) := by have h := hK.out; rw [hlen] at h; exact h
        have hown0 : wr.ownsRow (w.heap.size + 2) 57 1 (.slice ma j mcap) j vs := by have h := hK.out.2.1; rw [hlen] at h; exact h
        have hne : ∀ g, (Value.slice ma j mcap).ownBlock = some g → w.heap.size + 2 ≤ g ∧ g < wr.heap.size := own_base hown0
        replace hown0 := Lib.hid hown0
        replace hne := Lib.hid hne
        replace hst := Lib.hid hst
        replace hlen := Lib.hid hlen
        go_wp2_with fail
        go_region_law
          (first
            | (go_simp; go_at_call 21; refine (hc.out _ (by go_grown)).mono ?_; rintro e w1 ⟨pb, rfl, hR, hb⟩; have hb' : Below wr.heap.size wr w1 := Below.trans (show Below wr.heap.size wr wr.drew by go_grown) (hb.mono (by simp)); have hz1 := hb'.size; have o3' := cell_below hb' o_3; have hs1 : w.heap.size + 1 < w1.heap.size := Nat.lt_of_lt_of_le (show w.heap.size + 1 < wr.heap.size from hz) hz1; clear hb)
            | (refine step_append_lies _ (by rfl) _ _ _ (by rfl) (w.heap.size + 2) 57 i0 _ 1 8 Tryz.underlying91 I.out I0.out I1.out I2.out rfl (by omega) _ j vs (by rfl) (own_below hown0.out (by go_grown)) ⟨w1.heap.size, 0, none⟩ 1 1 [.pointer (some ⟨pb, 0, none⟩)] (by rfl) (by rfl) (World.news_of_block (cs := #[.pointer (some ⟨pb, 0, none⟩)]) (t := 57) (fr := (0, 0)) (heap_alloc_new' _ _ _ (by simp))) (by intro u hu; simp at hu; subst hu; rfl) (by omega) (by unfold maxLen; omega) (by omega) (by simp; omega) (w1.heap.size + 1) (by simp) ?_; intro g cap w2 hown hgrow hat hlt2; have hk3 := kept_of hgrow (w := wr) (by go_grown); have hblk : w2.heap[w.heap.size + 1]? = wr.heap[w.heap.size + 1]? := hk3 _ (by omega) (fun e => by have := (hne.out _ e.symm).1; omega); have c2 : w2.cell? ⟨w.heap.size + 1, 3, none⟩ = some (.slice ma j mcap) := (World.cell?_of_block (w := wr) (a := ⟨w.heap.size + 1, 3, none⟩) hblk).trans o_3; have f2 : w2.frozen? ⟨w.heap.size + 1, 3, none⟩ = false := (World.frozen?_of_block (w := wr) (a := ⟨w.heap.size + 1, 3, none⟩) hblk).trans hfz))
        all_goals
          have hB2 : Below w.heap.size w w2 := hw.trans ((below_grown2 (wr := wr) (base := w.heap.size + 2) hgrow (by go_grown) (Below.refl _ wr) hz hown0.out).mono (by omega))
          have hO2 := (O.of_block hblk).set3 (.slice (some ⟨g, 0, none⟩) (j + 1) cap)
          have hK2 := (KidsOwn.grow hK.out hz hb' (show Below w1.heap.size w1 (w1.alloc (.cells #[.pointer (some ⟨pb, 0, none⟩)] 57)) by go_grown) hR hgrow hown (by rw [hlen.out]) (by simpa using hat)).set (b := w.heap.size + 1) (o := 3) (by omega) (.slice (some ⟨g, 0, none⟩) (j + 1) cap)
          rw [← hst.out] at hK2
          have hz2 := hgrow.size
          simp only [World.size_alloc] at hz2
          replace hK2 := Lib.hid hK2
          clear hR hgrow hown hat hk3 hblk hK hc hne hlen hst hown0 hb' o3'
          go_wp2_with fail
          go_roundw
          case rel => exact ⟨j + 1, _, .slice (some ⟨g, 0, none⟩) (j + 1) cap, by omega, by go_num, hB2.setCell (p := ⟨w.heap.size + 1, 3, none⟩) (by simp) _, hO2, by rw [frozen_setCell]; exact f2, hK2.out, by simp; omega⟩
          case measure => simp [intOf]; omega
      · obtain rfl : j = m := by omega
        have hlen : ks.take j = ks := List.take_of_length_le (by have := hm.out; omega)
        rw [hlen] at hK O
        replace hlen := Lib.hid hlen
        have hfin : PxR (f + 1) (fun b => w.heap.size ≤ b) wr (.pointer (some ⟨w.heap.size + 1, 0, none⟩)) (treeOf l (f + 1) i) := by
          rw [hT.out]
          exact KidsOwn.tree (lo := w.heap.size) (b := w.heap.size + 1) (base := w.heap.size + 2) (t := .mk kd nn s (ks.map fun k => treeOf l f k.toNat)) hK.out (by omega) (by omega) hwf O
        replace hfin := Lib.hid hfin
        clear hK O
        go_wp2_with fail
        go_returns
        exact ⟨w.heap.size + 1, rfl, hfin.out, hw⟩

end Go.Proofs.YtnmmfcnkpcigoaaGreat

/- The program's dataExpr: plain law; children behind pointers. -/
namespace Go.Proofs.YtnmmfcnkpcigoaaGreat
open Go.RowKit
set_option linter.unusedVariables false
set_option linter.unusedSimpArgs false
attribute [local go_sem] Ext.cell

/-! Plain. -/
def dKind (k : Int) : Int := if k = 2 then 2 else if k = 3 then 1 else if k = 4 then 4 else if k = 5 then 11 else 12
def eLeaf (k n : Int) (s : ByteArray) : ExT := .mk k 0 n s [] []
def eMinus : ByteArray := ⟨#[45]⟩
def eNeg (n : Int) : ExT := .mk 10 0 0 eMinus [eLeaf 1 0 ⟨#[]⟩, eLeaf 1 (-n) ⟨#[]⟩] []
mutual
/-- The expression of a value. -/
def dExpr : PxT → Option ExT
  | .mk kd n s ks => if n < 0 then (if n = -4611686018427387904 then none else some (eNeg n)) else (dExprs ks).map fun xs => .mk (dKind kd) 0 n s xs []
def dExprs : List PxT → Option (List ExT)
  | [] => some []
  | k :: ks => match dExpr k with
    | none => none
    | some x => (dExprs ks).map fun xs => x :: xs
end
theorem dExpr_mk (kd n : Int) (s : ByteArray) (ks : List PxT) : dExpr (.mk kd n s ks) = if n < 0 then (if n = -4611686018427387904 then none else some (eNeg n)) else (dExprs ks).map fun xs => .mk (dKind kd) 0 n s xs [] := by rw [dExpr]
theorem dExprs_append : ∀ (l m : List PxT), dExprs (l ++ m) = (dExprs l).bind fun a => (dExprs m).map fun b => a ++ b
  | [], m => by simp only [List.nil_append, dExprs, Option.bind_some]; cases dExprs m <;> rfl
  | k :: l, m => by
    simp only [List.cons_append, dExprs]
    cases dExpr k with
    | none => rfl
    | some x =>
      dsimp only
      rw [dExprs_append l m]
      cases dExprs l with
      | none => rfl
      | some a => cases dExprs m <;> rfl
theorem dExprs_len : ∀ (l : List PxT) (a : List ExT), dExprs l = some a → a.length = l.length
  | [], a, h => by simp only [dExprs, Option.some.injEq] at h; subst h; rfl
  | k :: l, a, h => by
    simp only [dExprs] at h
    cases hk : dExpr k with
    | none => rw [hk] at h; cases h
    | some x =>
      rw [hk] at h
      dsimp only at h
      cases hl : dExprs l with
      | none => rw [hl] at h; cases h
      | some b =>
        rw [hl] at h
        simp only [Option.map_some, Option.some.injEq] at h
        subst h
        simp [dExprs_len l b hl]

/-! Children that are gathered. -/
def KidsE (w : World) (base : Nat) (T : TypeId) (f : Nat) (vs : List Value) (ts : List ExT) (v : Value) : Prop :=
  vs.length = ts.length ∧ w.ownsRow base T 1 v ts.length vs ∧ ∀ (i : Nat) (p : Value) (t : ExT), vs[i]? = some p → ts[i]? = some t → ExR f (fun b => base ≤ b ∧ v.ownBlock ≠ some b) w p t
theorem KidsE.nil (w : World) (base : Nat) (T : TypeId) (f : Nat) : KidsE w base T f [] [] (.slice none 0 0) := ⟨rfl, own_none, fun i p t (h : ([] : List Value)[i]? = some p) => by simp at h⟩
theorem KidsE.below {w w' : World} {base : Nat} {T : TypeId} {f : Nat} {vs : List Value} {ts : List ExT} {v : Value} (h : KidsE w base T f vs ts v) (hb : Below w.heap.size w w') : KidsE w' base T f vs ts v :=
  ⟨h.1, own_below h.2.1 hb, fun i p t h1 h2 => (h.2.2 i p t h1 h2).below hb⟩
theorem KidsE.grow {w w1 w1' w2 : World} {base : Nat} {T : TypeId} {f : Nat} {vs : List Value} {ts : List ExT} {v p : Value} {t : ExT} {g n cap : Nat} (h : KidsE w base T f vs ts v) (hbase : base ≤ w.heap.size) (hb : Below w.heap.size w w1) (hb1 : Below w1.heap.size w1 w1')
    (hp : ExR f (fun b => w.heap.size ≤ b) w1 p t) (hg : w1'.grownBy w2 v.ownBlock) (hown : w2.ownsRow base T 1 (.slice (some ⟨g, 0, none⟩) n cap) n (vs ++ [p])) (hn : n = ts.length + 1) (hat : v.ownBlock = some g ∨ g = w1'.heap.size) :
    KidsE w2 base T f (vs ++ [p]) (ts ++ [t]) (.slice (some ⟨g, 0, none⟩) n cap) := by
  subst hn
  obtain ⟨h1, h2, h3⟩ := h
  have ob := own_base h2
  have hs1 := hb.size
  have hs2 := hb1.size
  refine ⟨by simp [h1], by simpa using hown, fun i q u hq hu => ?_⟩
  by_cases e : i = ts.length
  · subst e
    rw [List.getElem?_append_right (by omega)] at hq hu
    have hq' : p = q := by simpa [h1] using hq
    have hu' : t = u := by simpa using hu
    subst hq' hu'
    have hp1 : ExR f (fun b => w.heap.size ≤ b ∧ b < w1.heap.size) w1 p t := hp.to (Same.below (Below.refl _ _)) fun b h4 h5 => ⟨h4, h5⟩
    refine (hp1.below hb1).to (fun b h4 h5 => hg.block b h5 fun e => ?_) fun b h4 h5 => ⟨by omega, fun e => ?_⟩
    · have := (ob b e.symm).2
      omega
    · obtain rfl : g = b := by simpa [Value.ownBlock] using e
      rcases hat with h6 | h6
      · have := (ob g h6).2
        omega
      · omega
  · have hi : i < ts.length := by
      have := (List.getElem?_eq_some_iff.1 hu).1
      simp at this; omega
    rw [List.getElem?_append_left (by omega)] at hq hu
    have hp1 : ExR f (fun b => (base ≤ b ∧ v.ownBlock ≠ some b) ∧ b < w.heap.size) w q u := (h3 i q u hq hu).to (Same.below (Below.refl _ _)) fun b h4 h5 => ⟨h4, h5⟩
    refine ((hp1.below hb).below hb1).to (fun b h4 h5 => hg.block b h5 fun e => h4.1.2 e.symm) fun b h4 h5 => ⟨h4.1.1, fun e => ?_⟩
    obtain rfl : g = b := by simpa [Value.ownBlock] using e
    rcases hat with h6 | h6
    · exact h4.1.2 h6
    · omega
theorem KidsE.set {w : World} {base : Nat} {T : TypeId} {f : Nat} {vs : List Value} {ts : List ExT} {v : Value} (h : KidsE w base T f vs ts v) {b o : Nat} (hb : b < base) (u : Value) : KidsE (w.setCell ⟨b, o, none⟩ u) base T f vs ts v :=
  ⟨h.1, own_kept (S := fun k => k = b) h.2.1 ((Kept.refl (fun k => k = b) w).set (p := ⟨b, o, none⟩) rfl u) (fun g hg e => by have := (own_base h.2.1 g hg).1; omega), fun i p t h1 h2 =>
    (h.2.2 i p t h1 h2).to (fun k hk _ => Below.heap_setCell w ⟨b, o, none⟩ u k (by show k ≠ b; omega)) fun k hk _ => hk⟩
theorem KidsE.form {w : World} {base : Nat} {T : TypeId} {f : Nat} {vs : List Value} {ts : List ExT} {v : Value} (h : KidsE w base T f vs ts v) : ∃ a cap, v = .slice a ts.length cap := by
  rcases h.2.1.2 with ⟨rfl, h0⟩ | ⟨g, cap, cur, rfl, _⟩
  · exact ⟨none, 0, by rw [h0]⟩
  · exact ⟨_, cap, rfl⟩
/-- A block of the call's own with such children is a tree. -/
theorem KidsE.tree {w : World} {base lo b f : Nat} {T : TypeId} {vs : List Value} {kd at_ nn : Int} {s : ByteArray} {ts : List ExT} {v : Value} (h : KidsE w base T f vs ts v) (hl : lo ≤ b) (hbase : lo ≤ base) (hwf : (ExT.mk kd at_ nn s ts []).wf) (hr : RowAt w b 0 [.int .i64 kd, .int .i64 at_, .int .i64 nn, .string s, v, .slice none 0 0]) :
    ExR (f + 1) (fun b => lo ≤ b) w (.pointer (some ⟨b, 0, none⟩)) (.mk kd at_ nn s ts []) := by
  by_cases h0 : 0 < ts.length
  · obtain ⟨g, cap, rfl, h1, h2, h3, h4, h5, h6⟩ := own_cells h.2.1 h0
    refine ⟨b, _, cap, _, [], rfl, hl, hwf, PatsSm.nil, hr, SlO.nil, fun q hq => (by cases hq), h3, h4, fun _ => ⟨g, 0, rfl, by omega, fun i k hk => ?_⟩⟩
    have hi := (List.getElem?_eq_some_iff.1 hk).1
    obtain ⟨p, hp⟩ : ∃ p, vs[i]? = some p := ⟨_, List.getElem?_eq_getElem (by rw [h.1]; exact hi)⟩
    exact ⟨p, h5 i p hp, (h.2.2 i p k hp hk).to (Same.below (Below.refl _ _)) fun b h _ => by omega⟩
  · obtain ⟨a, cap, rfl⟩ := h.form
    rcases h.2.1.2 with ⟨hv, _⟩ | ⟨g, cap', cur, hv, _, _, h5, h6, _⟩
    · injection hv with _ e1 e2
      subst e2
      exact ⟨b, a, 0, _, [], rfl, hl, hwf, PatsSm.nil, hr, SlO.nil, fun q hq => (by cases hq), by show ts.length ≤ 0; omega, by omega, fun h => absurd h h0⟩
    · injection hv with _ e1 e2
      subst e2
      exact ⟨b, a, cap, _, [], rfl, hl, hwf, PatsSm.nil, hr, SlO.nil, fun q hq => (by cases hq), h5, by unfold maxLen at h6; omega, fun h => absurd h h0⟩
theorem ExR.node {f b g c : Nat} {S : Nat → Prop} {w : World} {kd at_ nn : Int} {s : ByteArray} {ts : List ExT} {vs : List Value} (hS : S b) (hg : S g) (hwf : (ExT.mk kd at_ nn s ts []).wf)
    (hr : RowAt w b 0 [.int .i64 kd, .int .i64 at_, .int .i64 nn, .string s, .slice (some ⟨g, 0, none⟩) ts.length c, .slice none 0 0]) (hc : ts.length ≤ c) (hc2 : c ≤ 9223372036854775807) (hv : RowAt w g 0 vs) (hl : vs.length = ts.length)
    (hk : ∀ (i : Nat) p t, vs[i]? = some p → ts[i]? = some t → ExR f S w p t) : ExR (f + 1) S w (.pointer (some ⟨b, 0, none⟩)) (.mk kd at_ nn s ts []) :=
  ⟨b, _, c, _, [], rfl, hS, hwf, PatsSm.nil, hr, SlO.nil, fun q hq => (by cases hq), hc, hc2, fun _ => ⟨g, 0, rfl, hg, fun i k hi => by
    obtain ⟨p, hp⟩ : ∃ p, vs[i]? = some p := ⟨_, List.getElem?_eq_getElem (by rw [hl]; exact (List.getElem?_eq_some_iff.1 hi).1)⟩
    exact ⟨p, hv i p hp, hk i p k hp hi⟩⟩⟩
theorem ExR.leaf {b c : Nat} {S : Nat → Prop} {w : World} {kd at_ nn : Int} {s : ByteArray} {a : Option Addr} (hS : S b) (hwf : (ExT.mk kd at_ nn s [] []).wf) (hc : c ≤ 9223372036854775807)
    (hr : RowAt w b 0 [.int .i64 kd, .int .i64 at_, .int .i64 nn, .string s, .slice a 0 c, .slice none 0 0]) : ExR 1 S w (.pointer (some ⟨b, 0, none⟩)) (.mk kd at_ nn s [] []) :=
  ⟨b, a, c, _, [], rfl, hS, hwf, PatsSm.nil, hr, SlO.nil, fun q hq => (by cases hq), Nat.zero_le _, hc, fun h => absurd h (by show ¬ 0 < ([] : List ExT).length; simp)⟩
theorem RowAt.putAt {w : World} {b j : Nat} {r : List Value} (h : RowAt w b 0 r) (hj : j < r.length) (u : Value) : RowAt (w.setCell ⟨b, j, none⟩ u) b 0 (r.set j u) := fun i c hc => by
  have h' := h
  rw [Nat.zero_add]
  by_cases e : j = i
  · subst e
    rw [List.getElem?_set_self hj] at hc
    obtain rfl := Option.some.inj hc
    have := h j _ (List.getElem?_eq_getElem hj)
    rw [Nat.zero_add] at this
    exact cell_setCell_eq w b j _ this
  · rw [List.getElem?_set_ne e] at hc
    have := h i c hc
    rw [Nat.zero_add] at this
    exact (cell_setCell_ne w b j i _ e).trans this
end Go.Proofs.YtnmmfcnkpcigoaaGreat

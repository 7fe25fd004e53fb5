/- Parts of the proof, merged: Nd2, Nd3, Tail. -/
import Derived.Test.YtaimekaagmcmnaaGreatNe37
namespace Go.Proofs.YtaimekaagmcmnaaGreat
open Go.RowKit
set_option linter.unusedVariables false
set_option linter.unusedSimpArgs false
attribute [local go_sem] Ext.cell

theorem setCells_eq (b : Nat) : ∀ (vs : List Value) (o : Nat) (w : World), w.setCells b o vs = storeRow w b o vs
  | [], _, _ => rfl
  | v :: r, o, w => by rw [World.setCells, storeRow, setCells_eq b r]
theorem own_store1 {lo g n cap k : Nat} {w : World} {xs : List ByteArray} {y : ByteArray} (h : OwnF 9 1 strRow StrOk lo w (.slice (some ⟨g, 0, none⟩) n cap) xs) (hn : n = xs.length) (hk : k < n) (hy : StrOk y) :
    OwnF 9 1 strRow StrOk lo (w.setCell ⟨g, k, none⟩ (.string y)) (.slice (some ⟨g, 0, none⟩) n cap) (xs.set k y) := by
  subst hn
  have h1 := own_store flatStr (v := .slice none 0 0) (y := y) h.1 hk
  rw [Nat.mul_one] at h1
  refine ⟨by rw [List.length_set]; exact h1, fun x hx => ?_⟩
  rcases List.mem_or_eq_of_mem_set hx with h2 | h2
  · exact h.2 x h2
  · rw [h2]; exact hy
theorem own_cut {lo g n cap i : Nat} {w : World} {xs : List ByteArray} {vs : List Value} (h : OwnF 9 1 strRow StrOk lo w (.slice (some ⟨g, 0, none⟩) n cap) xs) (hn : n = xs.length) (hi : i ≤ n) (hv : i + vs.length ≤ n) :
    OwnF 9 1 strRow StrOk lo (storeRow w g i vs) (.slice (some ⟨g, 0, none⟩) i cap) (xs.take i) := by
  have ht := OwnF.take flatStr h hn hi
  have hl : (xs.take i).length = i := by rw [List.length_take]; omega
  refine ⟨?_, ht.2⟩
  have h1 := ht.1
  rw [hl] at h1 ⊢
  refine ⟨h1.1, ?_⟩
  rcases h1.2 with ⟨hv', _⟩ | ⟨g', cap', cur, hv', b1, b2, b3, b4, b5, b6⟩
  · cases hv'
  · obtain ⟨rfl, rfl⟩ : g = g' ∧ cap = cap' := by injection hv' with e1 e2 e3; injection e1 with e1; injection e1 with e1; exact ⟨e1, e3⟩
    have hcn : n ≤ cap := by
      rcases h.1.2 with ⟨hv2, _⟩ | ⟨g2, cap2, cur2, hv2, _, _, c3, _⟩
      · cases hv2
      · have : cap = cap2 := by injection hv2
        omega
    obtain ⟨cur', c1, c2, c3⟩ := storeRow_block g vs w i cur _ b2 (by rw [b5]; omega)
    refine .inr ⟨g, cap, cur', rfl, b1, c1, b3, b4, by rw [c2, b5], ?_⟩
    rw [c3, List.append_assoc, List.take_append_of_le_length (by rw [List.length_take]; simp only [Array.length_toList]; omega), List.take_take, Nat.min_eq_left (by omega)]
    exact b6
theorem kept_storeRow1 {S : Nat → Prop} {w w1 : World} {g : Nat} (h : Kept S w w1) (hg : S g) : ∀ (vs : List Value) (o : Nat), Kept S w (storeRow w1 g o vs)
  | [], o => h
  | v :: r, o => by
    rw [storeRow]
    exact kept_storeRow1 (h.set (p := ⟨g, o, none⟩) hg v) hg r (o + 1)
theorem size_storeRow1 (g : Nat) (vs : List Value) (o : Nat) (w : World) : (storeRow w g o vs).heap.size = w.heap.size := size_storeRow g vs w o

theorem idx_z {p : ByteArray → Bool} {xs : List ByteArray} {w w' : World} {e : Ending} (h : IdxPostS p xs w e w') : ∃ z : Int, e = .returned (.int .i64 z) ∧ ((z = -1 ∧ ∀ y ∈ xs, p y = false) ∨ ∃ (k : Nat) (x : ByteArray), z = (k : Int) ∧ xs[k]? = some x ∧ p x = true ∧ ∀ y ∈ xs.take k, p y = false) ∧ Below w.heap.size w w' := by
  obtain ⟨h | ⟨k, x, rfl, h1, h2, h3⟩, hb⟩ := h
  · exact ⟨-1, h.1, .inl ⟨rfl, h.2⟩, hb⟩
  · exact ⟨k, rfl, .inr ⟨k, x, rfl, h1, h2, h3⟩, hb⟩
def DelPost (lo gl : Nat) (w : World) (ys : List ByteArray) (e : Ending) (w' : World) : Prop :=
  ∃ v', e = .returned v' ∧ OwnF 9 1 strRow StrOk lo w' v' ys ∧ Kept (· = gl) w w' ∧ w.heap.size ≤ w'.heap.size ∧ Below lo w w'
theorem below_storeRow1 {lo g : Nat} {w w1 : World} (h : Below lo w w1) (hg : lo ≤ g) : ∀ (vs : List Value) (o : Nat), Below lo w (storeRow w1 g o vs)
  | [], o => h
  | v :: r, o => by
    rw [storeRow]
    exact below_storeRow1 (h.setCell (p := ⟨g, o, none⟩) hg v) hg r (o + 1)
theorem filter_none {p : ByteArray → Bool} {l : List ByteArray} (h : ∀ y ∈ l, p y = false) : l.filter (fun y => !p y) = l := List.filter_eq_self.2 fun y hy => by rw [h y hy]; rfl
theorem filter_snoc {p : ByteArray → Bool} (l : List ByteArray) (x : ByteArray) : (l ++ [x]).filter (fun y => !p y) = l.filter (fun y => !p y) ++ (if p x = true then [] else [x]) := by
  rw [List.filter_append]
  congr 1
  rw [List.filter_cons]
  cases p x <;> rfl

set_option maxRecDepth 100000 in
set_option maxHeartbeats 8000000 in
theorem deleteFuncS_c (xs : List ByteArray) (p : ByteArray → Bool) (g : Nat) (lb : Array Value) (lo gl n cap : Nat) (w : World) (hlg : lo ≤ gl) (hlw : lo ≤ w.heap.size) (hlen : xs.length ≤ 1048576) (hn : n = xs.length) (hO : OwnF 9 1 strRow StrOk lo w (.slice (some ⟨gl, 0, none⟩) n cap) xs)
    (hp : ∀ x W, x ∈ xs → Kept (· = gl) w W → w.heap.size ≤ W.heap.size → Calls Tryz.prog g (#[.string x] ++ lb) W fun e w' => e = .returned (.bool (p x)) ∧ Below W.heap.size W w') (eg : ∀ args w, (callFunc g args).run Tryz.prog w = .ok (.enter g args) w) :
    Calls Tryz.prog 23 #[.slice (some ⟨gl, 0, none⟩) n cap, .func (.func g) #[] lb] w (DelPost lo gl w (xs.filter fun y => !p y)) := by
  have cI := indexFuncS_c xs p g lb lo _ w (hO.sl flatStr) (fun x W hx hW => hp x W hx (Kept.below hW) hW.size) eg
  have hpost : ∀ W v', OwnF 9 1 strRow StrOk lo W v' (xs.filter fun y => !p y) → Kept (· = gl) w W → w.heap.size ≤ W.heap.size → Below lo w W → DelPost lo gl w (xs.filter fun y => !p y) (.returned v') W := fun W v' h1 h2 h3 h4 => ⟨v', rfl, h1, h2, h3, h4⟩
  generalize DelPost lo gl w (xs.filter fun y => !p y) = Q at *
  rw [← hn] at hlen
  replace cI := Lib.hid cI; replace hpost := Lib.hid hpost; replace hp := Lib.hid hp; replace hn := Lib.hid hn; replace hO := Lib.hid hO
  go_enter Tryz.func23, Tryz.ntmps23
  go_upto_region 2 with (go_at_call 54; (with_reducible refine (cI.out).mono ?_); intro e w1 h; obtain ⟨z, rfl, hz, hb1⟩ := idx_z h; clear h)
  have K1 : Kept (· = gl) w w1 := Kept.below hb1
  have hs1 := hb1.size
  have O1 := hO.out.below hb1
  rcases hz with ⟨rfl, hall⟩ | ⟨k, x, rfl, hk1, hk2, hk3⟩
  · have hf := filter_none hall
    go_wp2_with fail
    exact hpost.out _ _ (by rw [hf]; exact O1) K1 hs1 (hb1.mono hlw)
  · have hkn : k < n := by have := (List.getElem?_eq_some_iff.1 hk1).1; have := hn.out; omega
    have dk : ((k : Int) == -1) = false := beq_eq_false_iff_ne.2 (by omega)
    have htk : (xs.take (k + 1)).filter (fun y => !p y) = xs.take k := by
      rw [List.take_add_one, hk1]
      show (xs.take k ++ [x]).filter _ = _
      rw [filter_snoc, if_pos hk2, List.append_nil, filter_none hk3]
    replace htk := Lib.hid htk; replace hk3 := Lib.hid hk3; replace K1 := Lib.hid K1; replace O1 := Lib.hid O1
    have BW := Lib.hid (hb1.mono hlw)
    clear cI hb1
    go_wp2_with fail
    go_loopw [5, 6] (fun ii jj wr => ∃ (i j : Nat) (R : List ByteArray), i < j ∧ j ≤ n ∧ ii = .int .i64 i ∧ jj = .int .i64 j ∧ Hid (OwnF 9 1 strRow StrOk lo wr (.slice (some ⟨gl, 0, none⟩) n cap) R) ∧ Hid (R.length = n) ∧ Hid (R.take i = (xs.take j).filter fun y => !p y) ∧ Hid (R.drop j = xs.drop j) ∧ Hid (Kept (· = gl) w wr) ∧ Hid (Below lo w wr) ∧ w.heap.size ≤ wr.heap.size) (fun _ jj _ => n - (intOf jj).toNat)
    case atStart => exact ⟨k, k + 1, xs, by omega, by omega, rfl, by go_num, O1, Lib.hid hn.out.symm, Lib.hid htk.out.symm, Lib.hid rfl, K1, BW, hs1⟩
    case round =>
      clear O1 K1 htk hk1 hk3 BW
      obtain ⟨i, j, R, hij, hjn, rfl, rfl, O, hRl, hRt, hRd, K, BW, hsz⟩ := hrel
      by_cases hlt : j < n
      · obtain ⟨x2, hx2⟩ : ∃ x2, xs[j]? = some x2 := ⟨_, List.getElem?_eq_getElem (by have := hn.out; omega)⟩
        have hR2 : R[j]? = some x2 := by
          have h1 : (R.drop j)[0]? = some x2 := by rw [hRd.out, List.getElem?_drop]; exact hx2
          rw [List.getElem?_drop] at h1; exact h1
        have hxs2 : StrOk x2 := O.out.2 _ (List.mem_of_getElem? hR2)
        obtain ⟨g', cap', hv', b1, b2, b3, b4, hrow, hwr⟩ := own_cells O.out.1 (by rw [hRl.out]; omega)
        obtain ⟨rfl, rfl⟩ : gl = g' ∧ cap = cap' := by injection hv' with e1 e2 e3; injection e1 with e1; injection e1 with e1; exact ⟨e1, e3⟩
        have e_0 : wr.cell? ⟨gl, j, none⟩ = some (.string x2) := by
          have h1 := hrow (j * 1 + 0) (.string x2) (flatStr.get hR2 rfl)
          simpa using h1
        obtain ⟨xi, hxi⟩ : ∃ xi, R[i]? = some xi := ⟨_, List.getElem?_eq_getElem (by have := hRl.out; omega)⟩
        have e_1 : wr.cell? ⟨gl, i, none⟩ = some (.string xi) := by
          have h1 := hrow (i * 1 + 0) (.string xi) (flatStr.get hxi rfl)
          simpa using h1
        have f_1 : wr.frozen? ⟨gl, i, none⟩ = false := by have := hwr.frz i (by rw [hRl.out]; omega); simpa using this
        have hc := hp.out x2 wr (List.mem_of_getElem? hx2) K.out hsz
        have htk : (xs.take (j + 1)).filter (fun y => !p y) = (xs.take j).filter (fun y => !p y) ++ (if p x2 = true then [] else [x2]) := by
          rw [List.take_add_one, hx2]
          exact filter_snoc _ _
        have hdr : ∀ l : List ByteArray, l.drop (j + 1) = (l.drop j).drop 1 := fun l => by rw [List.drop_drop]
        have hcapn : n ≤ cap := by rw [hRl.out] at b3; exact b3
        generalize hpx : p x2 = q at *
        clear hrow hwr hv' b1
        replace hc := Lib.hid hc; replace htk := Lib.hid htk; replace hx2 := Lib.hid hx2; replace hR2 := Lib.hid hR2; replace hxi := Lib.hid hxi; replace hpx := Lib.hid hpx; replace hdr := Lib.hid hdr
        cases q
        · go_wp2_with (go_at_fn g; refine hc.out.mono ?_; rintro e w2 ⟨rfl, hb2⟩; have g_1 := cell_below hb2 e_1; have gf_1 : w2.frozen? ⟨gl, i, none⟩ = false := (by rw [hb2.frozen (p := ⟨gl, i, none⟩) (World.block_lt_of_cell? _ _ e_1)]; exact f_1); have hgl2 := World.block_lt_of_cell? _ _ g_1; dsimp only at hgl2)
          have O2 := own_store1 (O.out.below hb2) hRl.out.symm (by omega) hxs2 (k := i)
          have K2 : Kept (· = gl) w (w2.setCell ⟨gl, i, none⟩ (.string x2)) := (K.out.trans hsz (Kept.below hb2)).set (p := ⟨gl, i, none⟩) rfl _
          have hz2 : (w2.setCell ⟨gl, i, none⟩ (.string x2)).heap.size = w2.heap.size := by simp [World.setCell]
          have hb2s := hb2.size
          go_roundw
          case rel =>
            refine ⟨i + 1, j + 1, R.set i x2, by omega, by omega, by go_num, by go_num, Lib.hid O2, Lib.hid (by rw [List.length_set]; exact hRl.out), Lib.hid ?_, Lib.hid ?_, Lib.hid K2, Lib.hid ((BW.out.trans (hb2.mono (by omega))).setCell (p := ⟨gl, i, none⟩) hlg _), by omega⟩
            · rw [htk.out, if_neg (by simp), ← hRt.out, List.take_add_one, List.take_set_of_le (Nat.le_refl _), List.getElem?_set_self (by have := hRl.out; omega)]
              rfl
            · rw [List.drop_set_of_lt (by omega), hdr.out, hdr.out, hRd.out]
          case measure => simp [intOf]; omega
        · go_wp2_with (go_at_fn g; refine hc.out.mono ?_; rintro e w2 ⟨rfl, hb2⟩)
          go_roundw
          case rel =>
            refine ⟨i, j + 1, R, by omega, by omega, rfl, by go_num, Lib.hid (O.out.below hb2), hRl, Lib.hid ?_, Lib.hid ?_, Lib.hid (K.out.trans hsz (Kept.below hb2)), Lib.hid (BW.out.trans (hb2.mono (by omega))), Nat.le_trans hsz hb2.size⟩
            · rw [htk.out, if_pos (by trivial), List.append_nil]; exact hRt.out
            · rw [hdr.out, hdr.out, hRd.out]
          case measure => simp [intOf]; omega
      · obtain rfl : j = n := by omega
        have hfin : (xs.filter fun y => !p y) = R.take i := by rw [hRt.out, List.take_of_length_le (by have := hn.out; omega)]
        obtain ⟨m, hm⟩ : ∃ m, j = i + m := ⟨j - i, by omega⟩
        have hm0 : 0 < m := by omega
        obtain ⟨g', cap', hv', b1, b2, b3, b4, hrow, hwr⟩ := own_cells O.out.1 (by rw [hRl.out]; omega)
        obtain ⟨rfl, rfl⟩ : gl = g' ∧ cap = cap' := by injection hv' with e1 e2 e3; injection e1 with e1; injection e1 with e1; exact ⟨e1, e3⟩
        have hcl : ∀ c, (Builtin.clear_ #[27] 0 #[.slice (some ⟨gl, i, none⟩) m c]).run Tryz.prog wr = .ok (.tuple #[]) (storeRow wr gl i (List.replicate m (.string ⟨#[]⟩))) := fun c => by
          rw [← setCells_eq]
          refine Lib.run_clear_slice wr _ _ 0 (.string ⟨#[]⟩) Tryz.underlying27 (fun w => by kernel_rfl) rfl rfl gl i m c hm0 (fun t ht => ?_) (fun t ht => ?_)
          · obtain ⟨y, hy⟩ : ∃ y, R[i + t]? = some y := ⟨_, List.getElem?_eq_getElem (by have := hRl.out; omega)⟩
            have h1 := hrow ((i + t) * 1 + 0) (.string y) (flatStr.get hy rfl)
            simp only [Nat.mul_one, Nat.add_zero, Nat.zero_add] at h1
            rw [h1]; rfl
          · have := hwr.frz (i + t) (by rw [hRl.out]; omega)
            simpa using this
        have qc := hcl (cap - i)
        rw [show m = j - i by omega] at qc
        have O3 := own_cut (vs := List.replicate (j - i) (.string ⟨#[]⟩)) O.out hRl.out.symm (Nat.le_of_lt hij) (by rw [List.length_replicate]; omega)
        have K3 := kept_storeRow1 (S := (· = gl)) K.out rfl (List.replicate (j - i) (.string ⟨#[]⟩)) i
        have hs3 := size_storeRow1 gl (List.replicate (j - i) (.string ⟨#[]⟩)) i wr
        rw [← hfin] at O3
        replace O3 := Lib.hid O3; replace K3 := Lib.hid K3; replace hs3 := Lib.hid hs3
        have hcn : j ≤ cap := by rw [hRl.out] at b3; exact b3
        clear hv' hcl hfin hm hrow hwr
        go_wp2_with fail
        exact hpost.out _ _ O3.out K3.out (by have := hs3.out; omega) (below_storeRow1 BW.out hlg _ _)
end Go.Proofs.YtaimekaagmcmnaaGreat
namespace Go.Proofs.YtaimekaagmcmnaaGreat
open Go.RowKit
set_option linter.unusedVariables false
set_option linter.unusedSimpArgs false

def usesT (n : ByteArray) : List ByteArray := match treeL (libFunP n).data.toList with
  | some x => usesX n x libNames
  | none => []
def isLib (n : ByteArray) : Prop := libFunP n ≠ ⟨#[]⟩
/-- What is needed: the names, and what needed ones use. -/
inductive Rch (names : List ByteArray) : ByteArray → Prop where
  | base {n : ByteArray} : n ∈ names → Rch names n
  | step {n u : ByteArray} : Rch names n → isLib n → u ∈ usesT n → Rch names u
structure NdInv (names todo met : List ByteArray) : Prop where
  sound : ∀ n, n ∈ todo ∨ n ∈ met → Rch names n
  base : ∀ n ∈ names, isLib n → n ∈ met ∨ n ∈ todo
  step : ∀ n ∈ met, ∀ u ∈ usesT n, isLib u → u ∈ met ∨ u ∈ todo
  lib : ∀ n ∈ met, isLib n
  nd : met.Nodup
theorem NdInv.start (names : List ByteArray) : NdInv names names [] := ⟨fun n h => (by rcases h with h | h; exact .base h; cases h), fun n h _ => .inr h, fun n h => (by cases h), fun n h => (by cases h), List.nodup_nil⟩
theorem NdInv.skip {names todo met : List ByteArray} {n : ByteArray} (h : NdInv names (n :: todo) met) (hn : n ∈ met ∨ ¬ isLib n) : NdInv names todo met := by
  refine ⟨fun m hm => h.sound m (by rcases hm with hm | hm; exact .inl (by simp [hm]); exact .inr hm), fun m hm hl => ?_, fun m hm u hu hl => ?_, h.lib, h.nd⟩
  · rcases h.base m hm hl with h1 | h1
    · exact .inl h1
    · rcases List.mem_cons.1 h1 with rfl | h1
      · rcases hn with h2 | h2
        · exact .inl h2
        · exact absurd hl h2
      · exact .inr h1
  · rcases h.step m hm u hu hl with h1 | h1
    · exact .inl h1
    · rcases List.mem_cons.1 h1 with rfl | h1
      · rcases hn with h2 | h2
        · exact .inl h2
        · exact absurd hl h2
      · exact .inr h1
theorem NdInv.take {names todo met : List ByteArray} {n : ByteArray} (h : NdInv names (n :: todo) met) (hn : n ∉ met) (hl : isLib n) : NdInv names (todo ++ usesT n) (met ++ [n]) := by
  have hr : Rch names n := h.sound n (.inl (by simp))
  refine ⟨fun m hm => ?_, fun m hm hml => ?_, fun m hm u hu hul => ?_, fun m hm => ?_, ?_⟩
  · rcases hm with hm | hm
    · rcases List.mem_append.1 hm with hm | hm
      · exact h.sound m (.inl (by simp [hm]))
      · exact .step hr hl hm
    · rcases List.mem_append.1 hm with hm | hm
      · exact h.sound m (.inr hm)
      · simp at hm; subst hm; exact hr
  · rcases h.base m hm hml with h1 | h1
    · exact .inl (by simp [h1])
    · rcases List.mem_cons.1 h1 with rfl | h1
      · exact .inl (by simp)
      · exact .inr (by simp [h1])
  · rcases List.mem_append.1 hm with hm | hm
    · rcases h.step m hm u hu hul with h1 | h1
      · exact .inl (by simp [h1])
      · rcases List.mem_cons.1 h1 with rfl | h1
        · exact .inl (by simp)
        · exact .inr (by simp [h1])
    · simp at hm; subst hm
      exact .inr (by simp [hu])
  · rcases List.mem_append.1 hm with hm | hm
    · exact h.lib m hm
    · simp at hm; subst hm; exact hl
  · rw [List.nodup_append]
    exact ⟨h.nd, by simp, fun a ha b hb => by simp at hb; subst hb; exact fun e => hn (e ▸ ha)⟩
theorem NdInv.done {names met : List ByteArray} (h : NdInv names [] met) {n : ByteArray} (hl : isLib n) : n ∈ met ↔ Rch names n := by
  refine ⟨fun hm => h.sound n (.inr hm), fun hr => ?_⟩
  induction hr with
  | base hb => rcases h.base _ hb hl with h1 | h1; exact h1; cases h1
  | step hr hml hu ih => rcases h.step _ (ih hml) _ hu hl with h1 | h1; exact h1; cases h1
theorem lib_mem {n : ByteArray} (h : isLib n) : n ∈ libNames := by
  unfold isLib libFunP at h
  have key : ∀ q ∈ libNames, eqS n q = true → n ∈ libNames := fun q hq he => by rw [eqS_iff.1 he]; exact hq
  by_cases e : libNames.any (fun q => eqS n q) = true
  · obtain ⟨q, hq, he⟩ := List.any_eq_true.1 e
    exact key q hq he
  · have hno : ∀ q ∈ libNames, ¬ eqS n q = true := fun q hq he => e (List.any_eq_true.2 ⟨q, hq, he⟩)
    exact absurd (by rw [if_neg (hno ln_id (List.mem_of_getElem? (show libNames[0]? = some ln_id from rfl))), if_neg (hno ln_both (List.mem_of_getElem? (show libNames[1]? = some ln_both from rfl))), if_neg (hno ln_not (List.mem_of_getElem? (show libNames[2]? = some ln_not from rfl))), if_neg (hno ln_abs (List.mem_of_getElem? (show libNames[3]? = some ln_abs from rfl))), if_neg (hno ln_len (List.mem_of_getElem? (show libNames[4]? = some ln_len from rfl))), if_neg (hno ln_app (List.mem_of_getElem? (show libNames[5]? = some ln_app from rfl))), if_neg (hno ln_rev (List.mem_of_getElem? (show libNames[6]? = some ln_rev from rfl))), if_neg (hno ln_map (List.mem_of_getElem? (show libNames[7]? = some ln_map from rfl))), if_neg (hno ln_fold (List.mem_of_getElem? (show libNames[8]? = some ln_fold from rfl))), if_neg (hno ln_sum (List.mem_of_getElem? (show libNames[9]? = some ln_sum from rfl))), if_neg (hno ln_each (List.mem_of_getElem? (show libNames[10]? = some ln_each from rfl))), if_neg (hno ln_upto (List.mem_of_getElem? (show libNames[11]? = some ln_upto from rfl))), if_neg (hno ln_shows (List.mem_of_getElem? (show libNames[12]? = some ln_shows from rfl)))]) h
theorem libs_lib : ∀ n ∈ libNames, isLib n := by
  intro n hn
  simp only [libNames, List.mem_cons, List.not_mem_nil, or_false] at hn
  rcases hn with rfl | rfl | rfl | rfl | rfl | rfl | rfl | rfl | rfl | rfl | rfl | rfl | rfl <;> (unfold isLib; decide)
theorem nodup_sub : ∀ (l m : List ByteArray), l.Nodup → (∀ x ∈ l, x ∈ m) → l.length ≤ m.length
  | [], m, _, _ => Nat.zero_le _
  | x :: l, m, hd, hs => by
    obtain ⟨h1, h2⟩ := List.nodup_cons.1 hd
    have hx := hs x (by simp)
    obtain ⟨s, t, rfl⟩ := List.append_of_mem hx
    have h3 := nodup_sub l (s ++ t) h2 fun y hy => by
      have h4 := hs y (by simp [hy])
      rw [List.mem_append, List.mem_cons] at h4
      rw [List.mem_append]
      rcases h4 with h4 | rfl | h4
      · exact .inl h4
      · exact absurd hy h1
      · exact .inr h4
    simp only [List.length_cons, List.length_append] at h3 ⊢
    omega
theorem nodup_libs_len {met : List ByteArray} (hd : met.Nodup) (hl : ∀ n ∈ met, isLib n) : met.length ≤ 13 := nodup_sub met libNames hd fun n hn => lib_mem (hl n hn)
theorem nodup_libs_lt {met : List ByteArray} {n : ByteArray} (hd : met.Nodup) (hl : ∀ n ∈ met, isLib n) (hn : n ∉ met) (hnl : isLib n) : met.length < 13 := by
  have := nodup_libs_len (met := n :: met) (List.nodup_cons.2 ⟨hn, hd⟩) (fun m hm => by rcases List.mem_cons.1 hm with rfl | h; exact hnl; exact hl m h)
  rw [List.length_cons] at this
  omega
theorem usesT_len (n : ByteArray) : (usesT n).length ≤ 13 := by
  unfold usesT
  split
  · exact usesX_len n _ libNames
  · exact Nat.zero_le _
def Tail (B : Nat) (w : World) (base : Nat) (e : TypeId) (size : Nat) (v : Value) (n : Nat) (xs : List Value) : Prop :=
  xs.length = n * size ∧ ((v = .slice none 0 0 ∧ n = 0) ∨ ∃ g o cap pre, o ≤ B ∧ v = .slice (some ⟨g, o * size, none⟩) n cap ∧ pre.length = o * size ∧ w.ownsRow base e size (.slice (some ⟨g, 0, none⟩) (o + n) (o + cap)) (o + n) (pre ++ xs))
theorem Tail.of {B : Nat} {w : World} {base : Nat} {e : TypeId} {size : Nat} {v : Value} {n : Nat} {xs : List Value} (h : w.ownsRow base e size v n xs) : Tail B w base e size v n xs := by
  refine ⟨h.1, ?_⟩
  rcases h.2 with h2 | ⟨g, cap, cur, hv, h2⟩
  · exact .inl h2
  · exact .inr ⟨g, 0, cap, [], Nat.zero_le _, by rw [hv]; simp, by simp, by rw [Nat.zero_add, Nat.zero_add, ← hv, List.nil_append]; exact h⟩
theorem Tail.block {B : Nat} {w : World} {base : Nat} {e : TypeId} {size : Nat} {v : Value} {n : Nat} {xs : List Value} (h : Tail B w base e size v n xs) : ∀ g, v.ownBlock = some g → base ≤ g ∧ g < w.heap.size := fun g hg => by
  rcases h.2 with ⟨rfl, _⟩ | ⟨g', o, cap, pre, _, rfl, _, h2⟩
  · cases hg
  · obtain rfl : g' = g := by simpa [Value.ownBlock] using hg
    exact own_base h2 _ rfl
theorem Tail.kept {B : Nat} {S : Nat → Prop} {w w' : World} {base : Nat} {e : TypeId} {size : Nat} {v : Value} {n : Nat} {xs : List Value} (h : Tail B w base e size v n xs) (hk : Kept S w w') (hS : ∀ g, v.ownBlock = some g → ¬ S g) : Tail B w' base e size v n xs := by
  refine ⟨h.1, ?_⟩
  rcases h.2 with h2 | ⟨g, o, cap, pre, hoB, rfl, hp, h2⟩
  · exact .inl h2
  · exact .inr ⟨g, o, cap, pre, hoB, rfl, hp, own_kept h2 hk (fun q hq => by
      obtain rfl : g = q := by simpa [Value.ownBlock] using hq
      exact hS g rfl)⟩
theorem Tail.below {B : Nat} {w w' : World} {base : Nat} {e : TypeId} {size : Nat} {v : Value} {n : Nat} {xs : List Value} (h : Tail B w base e size v n xs) (hb : Below w.heap.size w w') : Tail B w' base e size v n xs :=
  h.kept (S := fun _ => False) (Kept.below hb) (fun _ _ h => h)
theorem Tail.form {B : Nat} {w : World} {base : Nat} {e : TypeId} {size : Nat} {v : Value} {n : Nat} {xs : List Value} (h : Tail B w base e size v n xs) : ∃ a c, v = .slice a n c := by
  rcases h.2 with ⟨rfl, rfl⟩ | ⟨g, o, cap, pre, _, rfl, _⟩ <;> exact ⟨_, _, rfl⟩
theorem Tail.cells {B : Nat} {w : World} {base : Nat} {e : TypeId} {size : Nat} {v : Value} {n : Nat} {xs : List Value} (h : Tail B w base e size v n xs) (hn : 0 < n) :
    ∃ g o cap, o ≤ B ∧ v = .slice (some ⟨g, o * size, none⟩) n cap ∧ base ≤ g ∧ g < w.heap.size ∧ n ≤ cap ∧ cap ≤ maxLen ∧ RowAt w g (o * size) xs := by
  rcases h.2 with ⟨_, h0⟩ | ⟨g, o, cap, pre, hoB, rfl, hp, h2⟩
  · omega
  · obtain ⟨g', c', hv, h3, h4, h5, h6, hR, -⟩ := own_cells h2 (by omega)
    obtain ⟨rfl, rfl⟩ : g = g' ∧ o + cap = c' := by injection hv with e1 e2 e3; injection e1 with e1; injection e1 with e1; exact ⟨e1, e3⟩
    refine ⟨g, o, cap, hoB, rfl, h3, h4, by omega, by unfold maxLen; omega, fun j c hc => ?_⟩
    have := hR (o * size + j) c (by rw [List.getElem?_append_right (by omega), hp, Nat.add_sub_cancel_left]; exact hc)
    rwa [Nat.zero_add] at this
theorem Tail.sl {B : Nat} {α : Type} {R : Reading α} {size : Nat} {f : α → List Value} {wf : α → Prop} (F : Flat R size f wf) {w : World} {base : Nat} {e : TypeId} {v : Value} {xs : List α} (h : Tail B w base e size v xs.length (rowsOf f xs)) (hwf : ∀ x ∈ xs, wf x) : Sl R size base w v xs := by
  by_cases hn : 0 < xs.length
  · obtain ⟨g, o, cap, -, rfl, h1, h2, h3, h4, hR⟩ := h.cells hn
    refine ⟨_, cap, rfl, h3, by unfold maxLen at h4; omega, fun _ => ⟨g, o * size, h1, rfl, fun i x hx => ⟨f x, F.back (hwf x (List.mem_of_getElem? hx)) _ _, fun j c hc => ?_⟩⟩⟩
    have := hR (i * size + j) c (F.get hx hc)
    rwa [← Nat.add_assoc] at this
  · have h1 : xs = [] := List.length_eq_zero_iff.1 (by omega)
    subst h1
    rcases h.2 with ⟨rfl, _⟩ | ⟨g, o, cap, pre, hoB, rfl, hp, h2⟩
    · exact Sl.nil
    · refine ⟨_, cap, rfl, Nat.zero_le _, ?_, fun h => absurd h (by simp)⟩
      rcases h2.2 with ⟨hv, _⟩ | ⟨g', cap', cur, hv, b1, b2, b3, b4, _⟩
      · cases hv
      · injection hv with e1 e2 e3
        unfold maxLen at b4; omega
theorem Tail.tail {B : Nat} {w : World} {base : Nat} {e : TypeId} {size : Nat} {g o n cap : Nat} {x xs : List Value} (h : Tail B w base e size (.slice (some ⟨g, o * size, none⟩) (n + 1) (cap + 1)) (n + 1) (x ++ xs)) (hs : 0 < size) (hx : x.length = size) : Tail (B + 1) w base e size (.slice (some ⟨g, (o + 1) * size, none⟩) n cap) n xs := by
  have h1 := h.1
  rw [List.length_append, hx, Nat.succ_mul] at h1
  refine ⟨by omega, ?_⟩
  rcases h.2 with ⟨hv, _⟩ | ⟨g', o', cap', pre, hoB, hv, hp, h2⟩
  · cases hv
  · injection hv with e1 e2 e3
    injection e1 with e1
    injection e1 with e1 e4
    subst e1
    obtain rfl : o = o' := Nat.eq_of_mul_eq_mul_right hs e4
    subst e3
    refine .inr ⟨g, o + 1, cap, pre ++ x, by omega, rfl, by rw [List.length_append, hp, hx, Nat.succ_mul], ?_⟩
    have e5 : o + 1 + n = o + (n + 1) := by omega
    have e6 : o + 1 + cap = o + (cap + 1) := by omega
    rw [e5, e6, List.append_assoc]; exact h2

theorem add_none' (b off n : Nat) : (⟨b, off, none⟩ : Addr).add n = ⟨b, off + n, none⟩ := by unfold Addr.add; split <;> simp_all
section
variable {P : Program} (w : World)
theorem run_append_tail (t ty : TypeId) (base : Nat) (e : TypeId) (i : TypeInfo) (z : Value) (size bytes : Nat) (ht : P.underlying t = some (.slice e)) (hi : P.info? e = some i) (hz : i.zero = some z)
    (hsize : i.size = size) (hby : i.bytes = bytes) (hzs : z.cells.size = size) (hsz : 0 < size)
    (v : Value) (n : Nat) (xs : List Value) {B : Nat} (hown : Tail B w base e size v n xs)
    (ad : Addr) (m c : Nat) (news : List Value) (hl : news.length = m * size) (hnews : ∀ j u, news[j]? = some u → w.cell? (ad.add j) = some u) (h1 : ∀ u ∈ news, u.oneCell' = true)
    (hm : 0 < m) (h63 : B + n + m ≤ maxLen) (hbytes : (B + n + m) * bytes ≤ 140737488355328) (hbase : base ≤ w.heap.size) :
    ∃ v' w', (Builtin.append_ #[t, t] ty #[v, .slice (some ad) m c]).run P w = .ok v' w' ∧
      Tail B w' base e size v' (n + m) (xs ++ news) ∧ w.grownBy w' v.ownBlock ∧ (v'.ownBlock = v.ownBlock ∨ v'.ownBlock = some w.heap.size) := by
  have hlen : (xs ++ news).length = (n + m) * size := by rw [List.length_append, hown.1, hl, Nat.add_mul]
  rcases hown.2 with ⟨rfl, rfl⟩ | ⟨g, o, cap, pre, hoB, rfl, hp, h2⟩
  · have hx : xs = [] := List.eq_nil_of_length_eq_zero (by simpa using hown.1)
    subst hx
    obtain ⟨g, cap, w', hr, h2, h3, h4, h5⟩ := run_append_lies (P := P) w t ty base e i z size bytes ht hi hz hsize hby hzs hsz (.slice none 0 0) 0 [] ⟨by simp, .inl ⟨rfl, rfl⟩⟩ ad m c news hl hnews h1 hm (by omega) (Nat.le_trans (Nat.mul_le_mul_right _ (by omega)) hbytes) hbase _ rfl
    refine ⟨_, w', hr, Tail.of h2, h3, .inr ?_⟩
    rcases h4 with h4 | h4
    · cases h4
    · rw [h4]; rfl
  · have hsrc : Src P i.size t (.slice (some ad) m c) m news w := Src.ofSlice w ht ad m c news (by rw [hsize]; exact hl) hnews h1
    obtain ⟨g', c', hv, b1, b2, b3, b4, hR, hW⟩ : ∃ g' c', (Value.slice (some ⟨g, 0, none⟩) (o + n) (o + cap)) = .slice (some ⟨g', 0, none⟩) (o + n) c' ∧ base ≤ g' ∧ g' < w.heap.size ∧ o + n ≤ c' ∧ c' ≤ maxLen ∧ (∀ j u, xs[j]? = some u → w.cell? ⟨g', o * size + j, none⟩ = some u) ∧ (∀ j, j < c' * size → (w.cell? ⟨g', j, none⟩).isSome = true ∧ w.frozen? ⟨g', j, none⟩ = false) := by
      rcases h2.2 with ⟨hv, _⟩ | ⟨g', c', cur, hv, b1, b2, b3, b4, b5, b6⟩
      · cases hv
      · have hlt : g' < w.heap.size := by
          rcases Nat.lt_or_ge g' w.heap.size with h | h
          · exact h
          · rw [Array.getElem?_eq_none h] at b2; cases b2
        refine ⟨g', c', hv, b1, hlt, b3, b4, fun j u hj => ?_, fun j hj => ?_⟩
        · have hj' : (pre ++ xs)[o * size + j]? = some u := by rw [List.getElem?_append_right (by omega), hp, Nat.add_sub_cancel_left]; exact hj
          rw [← b6, List.getElem?_take] at hj'
          split at hj'
          · rw [cell_of_row w g' _ cur e (0, 0) b2]; simpa using hj'
          · cases hj'
        · have hjc : j < cur.size := by rw [b5]; exact hj
          refine ⟨?_, by simp [World.frozen?, b2]⟩
          rw [cell_of_row w g' _ cur e (0, 0) b2, Array.getElem?_eq_getElem hjc]; rfl
    obtain ⟨rfl, rfl⟩ : g = g' ∧ o + cap = c' := by injection hv with e1 e2 e3; injection e1 with e1; injection e1 with e1; exact ⟨e1, e3⟩
    by_cases hroom : n + m ≤ cap
    · have hr := run_append_room_src (P := P) w t t ty e i ht hi g (o * size) n cap (.slice (some ad) m c) m news hsrc hroom (fun j hj => ?_) (fun j hj => ?_)
      · have hf := run_append_room_src (P := P) w t t ty e i ht hi g 0 (o + n) (o + cap) (.slice (some ad) m c) m news hsrc (by omega) (fun j hj => ?_) (fun j hj => ?_)
        · obtain ⟨g1, cap1, w1, hr1, ho1, hg1, -, -⟩ := run_append_lies (P := P) w t ty base e i z size bytes ht hi hz hsize hby hzs hsz (.slice (some ⟨g, 0, none⟩) (o + n) (o + cap)) (o + n) (pre ++ xs) h2 ad m c news hl hnews h1 hm (by omega) (Nat.le_trans (Nat.mul_le_mul_right _ (by omega)) hbytes) hbase _ rfl
          · rw [hf] at hr1
            injection hr1 with e1 e2
            injection e1 with e3 e4 e5
            injection e3 with e3
            injection e3 with e3
            subst e3; subst e5
            have eo : o * size + n * i.size = 0 + (o + n) * i.size := by rw [hsize, Nat.add_mul]; omega
            rw [eo, e2] at hr
            refine ⟨_, w1, hr, ⟨hlen, .inr ⟨g, o, cap, pre, hoB, rfl, hp, ?_⟩⟩, hg1, .inl rfl⟩
            rw [← List.append_assoc, ← Nat.add_assoc]; exact ho1
        · rw [Nat.zero_add, hsize]; exact (hW _ (by have h3 : (o + n + m) * size ≤ (o + cap) * size := Nat.mul_le_mul_right _ (by omega); rw [Nat.add_mul (o + n)] at h3; omega)).1
        · rw [Nat.zero_add, hsize]; exact (hW _ (by have h3 : (o + n + m) * size ≤ (o + cap) * size := Nat.mul_le_mul_right _ (by omega); rw [Nat.add_mul (o + n)] at h3; omega)).2
      · rw [hsize]; exact (hW _ (by have h3 : (o + n + m) * size ≤ (o + cap) * size := Nat.mul_le_mul_right _ (by omega); rw [Nat.add_mul (o + n), Nat.add_mul o n] at h3; omega)).1
      · rw [hsize]; exact (hW _ (by have h3 : (o + n + m) * size ≤ (o + cap) * size := Nat.mul_le_mul_right _ (by omega); rw [Nat.add_mul (o + n), Nat.add_mul o n] at h3; omega)).2
    · have hr := run_append_grow (P := P) w t ty e i z ht hi hz ⟨g, o * size, none⟩ n cap xs (by rw [hsize]; exact hown.1) (fun j u hj => by rw [add_none']; exact hR j u hj) ad m c news (by rw [hsize]; exact hl) hnews (by omega) (by unfold maxLen at h63; omega) (growslice_fits (by omega) (Nat.le_trans (Nat.mul_le_mul_right _ (by omega)) (hby ▸ hbytes)))
      have hge := grownCap_ge w (n + m) cap e
      have hcm : grownCap w (n + m) cap e ≤ maxLen := grownCap_le_maxLen w (n + m) cap e (by omega)
      refine ⟨_, _, hr, Tail.of ⟨hlen, .inr ⟨w.heap.size, _, _, rfl, hbase, heap_alloc_new w.drew _, hge, hcm, ?_, ?_⟩⟩, ⟨rfl, rfl, rfl, by simp, fun k hk _ => heap_alloc_old w.drew _ hk⟩, .inr rfl⟩
      · simp only [Array.size_append, List.size_toArray, size_zeroCells, hzs, hown.1, hl, ← Nat.add_mul]
        congr 1
        omega
      · simp only [Array.toList_append, List.append_assoc]
        rw [← List.append_assoc, ← hlen]
        exact List.take_left
end

end Go.Proofs.YtaimekaagmcmnaaGreat

/- l11Marks: what one comes to, by passes over the cells. -/
import Derived.Test.YtajbgkpjmgmdhaaPoolMake
import Derived.Test.YtajbgkpjmgmdhaaFill
import Derived.Test.YtajbgkpjmgmdhaaGraph
namespace Go.Proofs.Ytajbgkpjmgmdhaa
open Go.RowKit
set_option linter.unusedVariables false
set_option linter.unusedSimpArgs false
attribute [local go_sem] Ext.cell

/-- An array of truth values that may be written. -/
def Bools (w : World) (g : Nat) (m : List Bool) : Prop := ∀ (j : Nat) x, m[j]? = some x → w.cell? ⟨g, j, none⟩ = some (.bool x) ∧ w.frozen? ⟨g, j, none⟩ = false
theorem Bools.below {w w' : World} {g : Nat} {m : List Bool} (h : Bools w g m) (hb : Below w.heap.size w w') : Bools w' g m := fun j x hj =>
  ⟨cell_below hb (h j x hj).1, by rw [hb.frozen (p := ⟨g, j, none⟩) (World.block_lt_of_cell? w _ (h j x hj).1), (h j x hj).2]⟩
theorem Bools.set {w : World} {g k : Nat} {m : List Bool} (h : Bools w g m) (b : Bool) : Bools (w.setCell ⟨g, k, none⟩ (.bool b)) g (m.set k b) := fun j x hj => by
  refine ⟨?_, ?_⟩
  · by_cases e : k = j
    · subst e
      have hk : k < m.length := by have := (List.getElem?_eq_some_iff.1 hj).1; simpa using this
      rw [List.getElem?_set_self hk] at hj
      obtain rfl := Option.some.inj hj
      exact cell_setCell_eq w g k _ (h k _ (List.getElem?_eq_getElem hk)).1
    · rw [List.getElem?_set_ne e] at hj
      exact (cell_setCell_ne w g k j _ e).trans (h j x hj).1
  · have hl : j < m.length := by have := (List.getElem?_eq_some_iff.1 hj).1; simpa using this
    rw [frozen_setCell]; exact (h j _ (List.getElem?_eq_getElem hl)).2
theorem Bools.zero {w : World} {g n : Nat} (hA : Arr w g (n * 1)) (hr : ∀ k, k < n → RowAt w g (k * 1) (Value.bool false).cells.toList) : Bools w g (List.replicate n false) := fun j x hj => by
  have hjn : j < n := by have := (List.getElem?_eq_some_iff.1 hj).1; simpa using this
  obtain rfl : x = false := by have := List.mem_of_getElem? hj; simp at this; exact this.2
  obtain ⟨c, e1, e2⟩ := hA j (by omega)
  have e3 := hr j hjn 0 (.bool false) rfl
  rw [Nat.mul_one, Nat.add_zero] at e3
  exact ⟨e3, e2⟩
def cntW (w : World) (g n : Nat) : Nat := (List.range n).countP fun j => match w.cell? ⟨g, j, none⟩ with
  | some (.bool b) => !b
  | _ => false
theorem Bools.cnt {w : World} {g n : Nat} {m : List Bool} (h : Bools w g m) (hn : m.length = n) : cntW w g n = cntF m := by
  subst hn
  have e : m = (List.range m.length).map (fun j => m.getD j false) := by
    apply List.ext_getElem?
    intro i
    rw [List.getElem?_map]
    by_cases hi : i < m.length
    · rw [List.getElem?_range hi]; simp [hi]
    · rw [List.getElem?_eq_none (by omega), List.getElem?_eq_none (by simp; omega)]; rfl
  unfold cntW cntF
  conv => rhs; rw [e]
  rw [List.countP_map]
  refine List.countP_congr fun j hj => ?_
  have hjl : j < m.length := by simpa using hj
  rw [(h j _ (List.getElem?_eq_getElem hjl)).1]
  simp [List.getD_eq_getElem?_getD, hjl]
def againOf : Value → Nat
  | .bool true => 1
  | _ => 0

/-- The child of v is marked. -/
def KM (m : List Bool) (v : GVal) : Prop := v.kind = 6 → ∀ j : Nat, v.n = (j : Int) → m[j]? = some true
theorem KM.mark {m : List Bool} {v : GVal} (h : KM m v) (j : Nat) : KM (m.set j true) v := fun h6 i e => mark_mono (h h6 i e)
theorem KM.self {m : List Bool} {v : GVal} {j : Nat} (h : v.n = (j : Int)) (hj : j < m.length) : KM (m.set j true) v := fun h6 i e => by
  obtain rfl : j = i := by omega
  rw [List.getElem?_set_self hj]
theorem kids_of {h : List GCell} {m : List Bool} {k : Nat} {c : GCell} (hc : h[k]? = some c) (ha : KM m c.a) (hb : KM m c.b) : KidsIn h m k := fun c' hc' => by
  rw [hc] at hc'
  obtain rfl := Option.some.inj hc'
  exact ⟨ha, hb⟩

set_option maxRecDepth 100000 in
set_option maxHeartbeats 8000000 in
theorem l11Marks_c (h : List GCell) (roots : List GVal) (u0 u1 : Value) (lo0 lo1 : Nat) (H : HeapIn h roots) (hh : h.length ≤ 1048576) (hr : roots.length ≤ 1048576) (w : World) (hx0 : Sl GCell.R 9 lo0 w u0 h) (hx1 : Sl GVal.R 3 lo1 w u1 roots) :
    Calls Try.prog 60 #[u0, u1] w fun e w' => ∃ g m, e = .returned (.slice (some ⟨g, 0, none⟩) h.length h.length) ∧ w.heap.size ≤ g ∧ Bools w' g m ∧ m.length = h.length ∧ (∀ (i : Nat) x, m[i]? = some x → (x = true ↔ Rch h roots i)) ∧ Below w.heap.size w w' := by
  obtain ⟨a0, c0, rfl, l0, m0, h0⟩ := hx0
  obtain ⟨a1, c1, rfl, l1, m1, h1⟩ := hx1
  obtain ⟨n, hn⟩ : ∃ n, n = h.length := ⟨_, rfl⟩
  obtain ⟨nr, hm⟩ : ∃ n, n = roots.length := ⟨_, rfl⟩
  rw [← hn] at l0 hh ⊢
  rw [← hm] at l1 hr ⊢
  replace hn := Lib.hid hn; replace hm := Lib.hid hm; replace h0 := Lib.hid h0; replace h1 := Lib.hid h1; replace H := Lib.hid H
  obtain ⟨i0, hi, hi0, hi1, hi2⟩ := info_parts info_Bool
  replace hi := Lib.hid hi; replace hi0 := Lib.hid hi0; replace hi1 := Lib.hid hi1; replace hi2 := Lib.hid hi2
  go_enter Try.func60, Try.ntmps60
  go_wp2_with (at_make; refine wpList_makeN rfl _ _ _ rfl 4 i0 _ 1 Try.underlying75 hi.out hi0.out hi1.out rfl n rfl rfl (by rw [hi2.out]; omega) (by omega) ?_; intro w1 hb1 hz1 hA hr; have B0 := Bools.zero hA hr; clear hA hr)
  have hg0 : w.heap.size < w1.heap.size := by omega
  replace B0 := Lib.hid B0
  go_loopw [18] (fun i wr => ∃ (k : Nat) (m : List Bool), k ≤ nr ∧ i = .int .i64 k ∧ Below w.heap.size w wr ∧ w.heap.size < wr.heap.size ∧ Bools wr w.heap.size m ∧ MInv h roots k m) (fun i _ => nr - (intOf i).toNat)
  case atStart => exact ⟨0, _, by omega, rfl, hb1, hg0, B0.out, hn.out ▸ MInv.zero h roots⟩
  case round =>
    clear hb1 hz1 hg0 B0
    obtain ⟨k, m, hk, rfl, hw, hg, B, M⟩ := hrel
    by_cases hlt : k < nr
    · obtain ⟨b1, o1, v, s1, _, rfl, P1, ⟨rfl, hwf⟩, r1⟩ := (h1.out.below GVal.good hw).get hm hlt
      obtain ⟨R0, R1, R2⟩ := r1.cells3
      have hv := H.out.roots v (List.mem_of_getElem? P1.out)
      obtain ⟨vk, vn, vs⟩ := v
      dsimp only at *
      by_cases h6 : vk = 6
      · subst h6
        obtain ⟨j, rfl, hjn⟩ := hv rfl
        have hjm : j < m.length := by rw [M.len]; exact hjn
        obtain ⟨e0, f0⟩ := B j _ (List.getElem?_eq_getElem hjm)
        have e0 := e0
        generalize m[j] = y at e0
        rw [← hn.out] at hjn
        have M2 := Lib.hid (M.root P1.out rfl rfl (hn.out ▸ hjn))
        have hgw : w.heap.size ≠ wr.heap.size := by omega
        replace B := Lib.hid B; clear M hwf hv r1
        go_wp2_with fail
        go_roundw
        case rel => exact ⟨k + 1, m.set j true, by omega, by go_num, Below.alloc (hw.setCell (p := ⟨w.heap.size, j, none⟩) (Nat.le_refl _) _) (by simpa [World.setCell] using hw.size) _, by simp [World.setCell]; omega, (B.out.set true).below (by go_grown), M2.out⟩
        case measure => simp [intOf]; omega
      · have hd : (vk == 6) = false := by simpa using h6
        have M2 := Lib.hid (M.skip P1.out h6)
        replace B := Lib.hid B; clear M hwf hv r1
        go_wp2_with fail
        go_roundw
        case rel => exact ⟨k + 1, m, by omega, by go_num, by go_grown, by simp; omega, B.out.below (by go_grown), M2.out⟩
        case measure => simp [intOf]; omega
    · obtain rfl : nr = k := by omega
      have M' : MInv h roots roots.length m := hm.out ▸ M
      have hlen : m.length = n := M.len.trans hn.out.symm
      clear M
      replace B := Lib.hid B; replace M' := Lib.hid M'
      go_wp2_with fail
      go_loopw [8] (fun a wr => ∃ (again : Bool) (m : List Bool), a = .bool again ∧ Below w.heap.size w wr ∧ w.heap.size < wr.heap.size ∧ m.length = n ∧ Bools wr w.heap.size m ∧ MInv h roots roots.length m ∧ (again = false → ∀ i, i < h.length → m[i]? = some true → KidsIn h m i)) (fun a wr => 2 * cntW wr w.heap.size n + againOf a)
      case atStart => exact ⟨true, m, rfl, hw, hg, hlen, B.out, M'.out, fun h => by cases h⟩
      case round =>
        clear hw hg B M' hlen
        obtain ⟨again, m, rfl, hw, hg, hlen, B, M, hcl⟩ := hrel
        cases again with
        | false =>
          have hlive : ∀ (i : Nat) x, m[i]? = some x → (x = true ↔ Rch h roots i) := fun i x hx => M.live (hcl rfl) hx
          clear M hcl
          replace B := Lib.hid B; replace hlive := Lib.hid hlive
          go_wp2_with fail
          go_returns
          exact ⟨_, m, rfl, Nat.le_refl _, B.out, by rw [hlen], hlive.out, hw⟩
        | true =>
          have hm0 : 2 * cntW wr w.heap.size n + againOf (.bool true) = 2 * cntF m + 1 := by rw [B.cnt hlen]; rfl
          have P0 := Pass.zero M
          clear hcl M
          generalize hc0 : cntF m = cm at *
          replace B := Lib.hid B; replace P0 := Lib.hid P0
          clear hc0
          go_wp2_with fail
          go_loopw [33, 8] (fun i a wr => ∃ (k : Nat) (again : Bool) (m : List Bool), k ≤ n ∧ i = .int .i64 k ∧ a = .bool again ∧ Below w.heap.size w wr ∧ w.heap.size < wr.heap.size ∧ m.length = n ∧ Bools wr w.heap.size m ∧ Pass h roots cm k again m) (fun i _ _ => n - (intOf i).toNat)
          case atStart => exact ⟨0, false, m, by omega, rfl, rfl, hw, hg, hlen, B.out, P0.out⟩
          case round =>
            clear hw hg hlen B P0
            obtain ⟨k, again, m, hk, rfl, rfl, hw, hg, hlen, B, P⟩ := hrel
            by_cases hlt : k < n
            · obtain ⟨b1, o1, c, s1, hn', rfl, P1, ⟨rfl, hwf⟩, r1⟩ := h0.out.get hn hlt
              obtain ⟨R0, R1, R2, R3, R4, R5, R6, R7, R8⟩ := (r1.below hw).cells9
              have hkm : k < m.length := by omega
              have hgw : w.heap.size ≠ wr.heap.size := by omega
              obtain ⟨e0, f0⟩ := B k _ (List.getElem?_eq_getElem hkm)
              have hmk := List.getElem?_eq_getElem hkm
              generalize m[k] = y at e0 hmk
              cases y with
              | false =>
                have P2 := Lib.hid (P.unmarked hmk)
                replace B := Lib.hid B; clear P hwf r1 f0
                go_wp2_with fail
                go_roundw
                case rel => exact ⟨k + 1, again, m, by omega, by go_num, rfl, by go_grown, by simp; omega, hlen, B.out.below (by go_grown), P2.out⟩
                case measure => simp [intOf]; omega
              | true =>
                have hcm := H.out.cells c (List.mem_of_getElem? P1.out)
                rw [← hn.out] at hcm
                have hRk := P.inv.rch k hmk
                replace B := Lib.hid B; replace P := Lib.hid P; clear hwf r1 f0
                go_wp2_with fail
                obtain ⟨w4, hW4⟩ : ∃ W, W = (wr.alloc (.cells #[.int .i64 c.kind, .int .i64 c.n, .string c.s, .int .i64 c.a.kind, .int .i64 c.a.n, .string c.a.s, .int .i64 c.b.kind, .int .i64 c.b.n, .string c.b.s] 30)).alloc (.cells #[.int .i64 c.a.kind, .int .i64 c.a.n, .string c.a.s, .int .i64 c.b.kind, .int .i64 c.b.n, .string c.b.s] 28) := ⟨_, rfl⟩
                rw [← hW4]
                have hb4 : Below wr.heap.size wr w4 := by rw [hW4]; go_grown
                have AR : RowAt w4 (wr.heap.size + 1) 0 [.int .i64 c.a.kind, .int .i64 c.a.n, .string c.a.s, .int .i64 c.b.kind, .int .i64 c.b.n, .string c.b.s] := by
                  rw [hW4]
                  have h := RowAt.box (wr.alloc (.cells #[.int .i64 c.kind, .int .i64 c.n, .string c.s, .int .i64 c.a.kind, .int .i64 c.a.n, .string c.a.s, .int .i64 c.b.kind, .int .i64 c.b.n, .string c.b.s] 30)) #[.int .i64 c.a.kind, .int .i64 c.a.n, .string c.a.s, .int .i64 c.b.kind, .int .i64 c.b.n, .string c.b.s] 28
                  rwa [World.size_alloc] at h
                have har : wr.heap.size + 1 ≠ w.heap.size := by omega
                have hw4 := hw.trans (hb4.mono hw.size)
                have hg4 : w.heap.size < w4.heap.size := by have := hb4.size; omega
                have B4 := Lib.hid (B.out.below hb4)
                clear hW4 hb4 R0 R1 R2 R3 R4 R5 R6 R7 R8 e0 hgw B
                generalize wr.heap.size + 1 = ar at *
                go_loopw [49, 8] (fun i a wx => ∃ (t : Nat) (again : Bool) (m : List Bool), t ≤ 2 ∧ i = .int .i64 t ∧ a = .bool again ∧ Below w.heap.size w wx ∧ w.heap.size < wx.heap.size ∧ RowAt wx ar 0 [.int .i64 c.a.kind, .int .i64 c.a.n, .string c.a.s, .int .i64 c.b.kind, .int .i64 c.b.n, .string c.b.s] ∧ m.length = n ∧ Bools wx w.heap.size m ∧ Pass h roots cm k again m ∧ m[k]? = some true ∧ (1 ≤ t → KM m c.a) ∧ (2 ≤ t → KM m c.b)) (fun i _ _ => 2 - (intOf i).toNat)
                case atStart => exact ⟨0, again, m, by omega, rfl, rfl, hw4, hg4, AR, hlen, B4.out, P.out, hmk, fun h => absurd h (by omega), fun h => absurd h (by omega)⟩
                case round =>
                  clear hw4 hg4 AR hlen B4 P hmk hw hg hkm
                  obtain ⟨t, again, m, ht, rfl, rfl, hw, hg, AR, hlen, B, P, hmk, hKa, hKb⟩ := hrel
                  have hgw : w.heap.size ≠ wr.heap.size := by omega
                  by_cases ht2 : t < 2
                  · obtain rfl | rfl : t = 0 ∨ t = 1 := by omega
                    · obtain ⟨R0, R1, R2, R3, R4, R5⟩ := AR.box6
                      by_cases h6 : c.a.kind = 6
                      · obtain ⟨j, hj, hjn⟩ := hcm.1 h6
                        have hjm : j < m.length := by omega
                        obtain ⟨e0, f0⟩ := B j _ (List.getElem?_eq_getElem hjm)
                        have hmj := List.getElem?_eq_getElem hjm
                        generalize m[j] = y at e0 hmj
                        rw [h6] at R0
                        rw [hj] at R1
                        cases y with
                        | true =>
                          have hK : KM m c.a := fun _ i e => by
                            obtain rfl : j = i := by omega
                            exact hmj
                          replace B := Lib.hid B; replace P := Lib.hid P; replace hK := Lib.hid hK; replace hj := Lib.hid hj
                          go_wp2_with fail
                          go_roundw
                          case rel => exact ⟨1, again, m, by omega, by go_num, rfl, by go_grown, by simp; omega, AR.below (by go_grown), hlen, B.out.below (by go_grown), P.out, hmk, fun _ => hK.out, fun h => absurd h (by omega)⟩
                          case measure => simp [intOf]
                        | false =>
                          have hK : KM (m.set j true) c.a := KM.self hj hjm
                          have P2 := Lib.hid (P.mark hmj (.left hRk P1.out h6 hj))
                          replace B := Lib.hid B; replace hK := Lib.hid hK; replace hj := Lib.hid hj
                          clear P
                          go_wp2_with fail
                          go_roundw
                          case rel =>
                            have hb5 : Below w.heap.size w (wr.setCell ⟨w.heap.size, j, none⟩ (.bool true)) := hw.setCell (p := ⟨w.heap.size, j, none⟩) (Nat.le_refl _) _
                            refine ⟨1, true, m.set j true, by omega, by go_num, rfl, Below.alloc hb5 (by simpa [World.setCell] using hw.size) _, by simp [World.setCell]; omega, (AR.set_other (fun e => har e) _).below (by go_grown), by rw [List.length_set]; exact hlen, (B.out.set true).below (by go_grown), P2.out, mark_mono hmk, fun _ => hK.out, fun h => absurd h (by omega)⟩
                          case measure => simp [intOf]
                      · have hd : (c.a.kind == 6) = false := by simpa using h6
                        have hK : KM m c.a := fun h => absurd h h6
                        replace B := Lib.hid B; replace P := Lib.hid P; replace hK := Lib.hid hK
                        go_wp2_with fail
                        go_roundw
                        case rel => exact ⟨1, again, m, by omega, by go_num, rfl, by go_grown, by simp; omega, AR.below (by go_grown), hlen, B.out.below (by go_grown), P.out, hmk, fun _ => hK.out, fun h => absurd h (by omega)⟩
                        case measure => simp [intOf]
                    · obtain ⟨R0, R1, R2, R3, R4, R5⟩ := AR.box6
                      by_cases h6 : c.b.kind = 6
                      · obtain ⟨j, hj, hjn⟩ := hcm.2 h6
                        have hjm : j < m.length := by omega
                        obtain ⟨e0, f0⟩ := B j _ (List.getElem?_eq_getElem hjm)
                        have hmj := List.getElem?_eq_getElem hjm
                        generalize m[j] = y at e0 hmj
                        rw [h6] at R3
                        rw [hj] at R4
                        cases y with
                        | true =>
                          have hK : KM m c.b := fun _ i e => by
                            obtain rfl : j = i := by omega
                            exact hmj
                          replace B := Lib.hid B; replace P := Lib.hid P; replace hK := Lib.hid hK; replace hj := Lib.hid hj
                          go_wp2_with fail
                          go_roundw
                          case rel => exact ⟨2, again, m, by omega, by go_num, rfl, by go_grown, by simp; omega, AR.below (by go_grown), hlen, B.out.below (by go_grown), P.out, hmk, fun _ => hKa (by omega), fun _ => hK.out⟩
                          case measure => simp [intOf]
                        | false =>
                          have hK : KM (m.set j true) c.b := KM.self hj hjm
                          have P2 := Lib.hid (P.mark hmj (.right hRk P1.out h6 hj))
                          replace B := Lib.hid B; replace hK := Lib.hid hK; replace hj := Lib.hid hj
                          clear P
                          go_wp2_with fail
                          go_roundw
                          case rel =>
                            have hb5 : Below w.heap.size w (wr.setCell ⟨w.heap.size, j, none⟩ (.bool true)) := hw.setCell (p := ⟨w.heap.size, j, none⟩) (Nat.le_refl _) _
                            refine ⟨2, true, m.set j true, by omega, by go_num, rfl, Below.alloc hb5 (by simpa [World.setCell] using hw.size) _, by simp [World.setCell]; omega, (AR.set_other (fun e => har e) _).below (by go_grown), by rw [List.length_set]; exact hlen, (B.out.set true).below (by go_grown), P2.out, mark_mono hmk, fun _ => (hKa (by omega)).mark j, fun _ => hK.out⟩
                          case measure => simp [intOf]
                      · have hd : (c.b.kind == 6) = false := by simpa using h6
                        have hK : KM m c.b := fun h => absurd h h6
                        replace B := Lib.hid B; replace P := Lib.hid P; replace hK := Lib.hid hK
                        go_wp2_with fail
                        go_roundw
                        case rel => exact ⟨2, again, m, by omega, by go_num, rfl, by go_grown, by simp; omega, AR.below (by go_grown), hlen, B.out.below (by go_grown), P.out, hmk, fun _ => hKa (by omega), fun _ => hK.out⟩
                        case measure => simp [intOf]
                  · obtain rfl : t = 2 := by omega
                    have P3 := P.next (kids_of P1.out (hKa (by omega)) (hKb (by omega)))
                    replace B := Lib.hid B; replace P3 := Lib.hid P3
                    clear P hKa hKb
                    go_wp2_with fail
                    go_roundw
                    case rel => exact ⟨k + 1, again, m, by omega, by go_num, rfl, hw, hg, hlen, B.out, P3.out⟩
                    case measure => simp [intOf]; omega
            · obtain rfl : n = k := by omega
              have hcl : again = false → ∀ i, i < h.length → m[i]? = some true → KidsIn h m i := fun ha i hi => P.cl ha i (by rw [hn.out]; exact hi)
              have hlt2 := P.lt; have hle2 := P.le; have hinv := P.inv
              have hcnt := B.cnt hlen
              replace B := Lib.hid B; replace hcl := Lib.hid hcl; replace hinv := Lib.hid hinv
              clear P
              go_wp2_with fail
              go_roundw
              case rel => exact ⟨again, m, rfl, hw, hg, hlen, B.out, hinv.out, hcl.out⟩
              case measure =>
                rw [hm0, hcnt]
                cases again
                · simp [againOf]; omega
                · have := hlt2 rfl; simp [againOf]; omega

end Go.Proofs.Ytajbgkpjmgmdhaa

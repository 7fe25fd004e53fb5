/- Parts of the proof, merged: FindType, FindPat, ProgOk. -/
import Derived.Test.YtaimekaagmcmnaaGreatNe34
/- slices.ContainsFunc over []impl.Type, with a closure that answers for each element and may make memory. -/
namespace Go.Proofs.YtaimekaagmcmnaaGreat
open Go.RowKit
set_option linter.unusedVariables false
set_option linter.unusedSimpArgs false
attribute [local go_sem] Ext.cell

set_option maxRecDepth 100000 in
set_option maxHeartbeats 4000000 in
theorem indexFuncType_c (xs : List GType) (p : GType → Bool) (g : Nat) (lb : Array Value) (lo : Nat) (u : Value) (w : World) (hu : Sl GType.R 3 lo w u xs)
    (hp : ∀ (i : Nat) x r W, xs[i]? = some x → Below w.heap.size w W → GType.R lo W r x → Calls Tryz.prog g (#[.agg r.toArray] ++ lb) W fun e w' => e = .returned (.bool (p x)) ∧ Below W.heap.size W w') (eg : ∀ args w, (callFunc g args).run Tryz.prog w = .ok (.enter g args) w) :
    Calls Tryz.prog 110 #[u, .func (.func g) #[] lb] w (IdxPost p xs w) := by
  obtain ⟨ua, uc, rfl, ul, um, h0⟩ := hu
  replace hp := Lib.hid hp
  replace h0 := Lib.hid h0
  obtain ⟨m, hm⟩ : ∃ m, m = xs.length := ⟨_, rfl⟩
  rw [← hm] at ul ⊢
  replace hm := Lib.hid hm
  go_enter Tryz.func110, Tryz.ntmps110
  go_wp2_with fail
  go_loopw [8] (fun i wr => ∃ k : Nat, k ≤ m ∧ i = .int .i64 k ∧ Below w.heap.size w wr ∧ Hid (∀ y ∈ xs.take k, p y = false)) (fun i _ => m - (intOf i).toNat)
  case atStart => exact ⟨0, by omega, rfl, Below.refl _ _, fun y hy => by simp at hy⟩
  case round =>
    obtain ⟨k, hk, rfl, hw, hF⟩ := hrel
    by_cases hlt : k < m
    · obtain ⟨b1, o1, x, r, _, rfl, P1, hx, r1⟩ := (h0.out.below GType.good hw).get hm hlt
      have hc := hp.out k x r wr P1.out hw hx
      obtain ⟨u0, rfl, hxf⟩ := id hx
      obtain ⟨e_0, e_1, e_2⟩ := r1.cells3
      clear r1 hx hxf
      replace P1 := P1
      generalize hq : p x = q at hc
      replace hq := Lib.hid hq
      cases q with
      | true =>
        go_wp2_with (go_at_fn g; refine hc.mono ?_; rintro e w1 ⟨rfl, hb⟩)
        go_returns
        exact ⟨k, rfl, by
          have : xs.any p = true := List.any_eq_true.2 ⟨x, List.mem_of_getElem? P1.out, hq.out⟩
          rw [this]; simp, hw.trans (hb.mono hw.size)⟩
      | false =>
        go_wp2_with (go_at_fn g; refine hc.mono ?_; rintro e w1 ⟨rfl, hb⟩)
        go_roundw
        case rel => exact ⟨k + 1, by omega, by go_num, hw.trans (hb.mono hw.size), by
          show ∀ y ∈ xs.take (k + 1), p y = false
          rw [take_snoc' P1.out]
          intro y hy
          rcases List.mem_append.1 hy with h | h
          · exact hF.out y h
          · simp at h; subst h; exact hq.out⟩
        case measure => simp [intOf]; omega
    · obtain rfl : k = m := by omega
      go_wp2_with fail
      go_returns
      exact ⟨-1, rfl, by
        have hF := hF.out
        rw [take_full hm] at hF
        have : xs.any p = false := List.any_eq_false.2 fun y hy => by rw [hF y hy]; simp
        rw [this]; simp, hw⟩

theorem containsFuncType_c (xs : List GType) (p : GType → Bool) (g : Nat) (lb : Array Value) (lo : Nat) (u : Value) (w : World) (hu : Sl GType.R 3 lo w u xs)
    (hp : ∀ (i : Nat) x r W, xs[i]? = some x → Below w.heap.size w W → GType.R lo W r x → Calls Tryz.prog g (#[.agg r.toArray] ++ lb) W fun e w' => e = .returned (.bool (p x)) ∧ Below W.heap.size W w') (eg : ∀ args w, (callFunc g args).run Tryz.prog w = .ok (.enter g args) w) :
    Calls Tryz.prog 79 #[u, .func (.func g) #[] lb] w fun e w' => e = .returned (.bool (xs.any p)) ∧ Below w.heap.size w w' := by
  have hc := indexFuncType_c xs p g lb lo u w hu hp eg
  replace hc : Calls Tryz.prog 110 #[u, .func (.func g) #[] lb] w fun e w' => ∃ n : Int, e = .returned (.int .i64 n) ∧ decide (0 ≤ n) = xs.any p ∧ Below w.heap.size w w' := hc
  clear hp
  generalize xs.any p = q at *
  obtain ⟨ua, uc, rfl⟩ := hu.form
  clear hu
  go_enter Tryz.func79, Tryz.ntmps79
  go_wp2_with (go_at_call 110; refine hc.mono ?_; rintro e w1 ⟨n, rfl, hn, hb⟩)
  go_returns
  exact ⟨rfl, hb⟩

end Go.Proofs.YtaimekaagmcmnaaGreat

/- slices.ContainsFunc over []impl.Pat, with a closure that answers for each element and may make memory. -/
namespace Go.Proofs.YtaimekaagmcmnaaGreat
open Go.RowKit
set_option linter.unusedVariables false
set_option linter.unusedSimpArgs false
attribute [local go_sem] Ext.cell

set_option maxRecDepth 100000 in
set_option maxHeartbeats 4000000 in
theorem indexFuncPat_c (xs : List GPat) (p : GPat → Bool) (g : Nat) (lb : Array Value) (lo : Nat) (u : Value) (w : World) (hu : Sl GPat.R 1 lo w u xs)
    (hp : ∀ (i : Nat) x r W, xs[i]? = some x → Below w.heap.size w W → GPat.R lo W r x → Calls Tryz.prog g (#[.agg r.toArray] ++ lb) W fun e w' => e = .returned (.bool (p x)) ∧ Below W.heap.size W w') (eg : ∀ args w, (callFunc g args).run Tryz.prog w = .ok (.enter g args) w) :
    Calls Tryz.prog 85 #[u, .func (.func g) #[] lb] w (IdxPost p xs w) := by
  obtain ⟨ua, uc, rfl, ul, um, h0⟩ := hu
  replace hp := Lib.hid hp
  replace h0 := Lib.hid h0
  obtain ⟨m, hm⟩ : ∃ m, m = xs.length := ⟨_, rfl⟩
  rw [← hm] at ul ⊢
  replace hm := Lib.hid hm
  go_enter Tryz.func85, Tryz.ntmps85
  go_wp2_with fail
  go_loopw [8] (fun i wr => ∃ k : Nat, k ≤ m ∧ i = .int .i64 k ∧ Below w.heap.size w wr ∧ Hid (∀ y ∈ xs.take k, p y = false)) (fun i _ => m - (intOf i).toNat)
  case atStart => exact ⟨0, by omega, rfl, Below.refl _ _, fun y hy => by simp at hy⟩
  case round =>
    obtain ⟨k, hk, rfl, hw, hF⟩ := hrel
    by_cases hlt : k < m
    · obtain ⟨b1, o1, x, r, _, rfl, P1, hx, r1⟩ := (h0.out.below GPat.good hw).get hm hlt
      have hc := hp.out k x r wr P1.out hw hx
      obtain ⟨u0, rfl, hxf⟩ := id hx
      have e_0 : wr.cell? ⟨b1, o1 + k, none⟩ = some u0 := by simpa using r1 0 _ rfl
      clear r1 hx hxf
      replace P1 := P1
      generalize hq : p x = q at hc
      replace hq := Lib.hid hq
      cases q with
      | true =>
        go_wp2_with (go_at_fn g; refine hc.mono ?_; rintro e w1 ⟨rfl, hb⟩)
        go_returns
        exact ⟨k, rfl, by
          have : xs.any p = true := List.any_eq_true.2 ⟨x, List.mem_of_getElem? P1.out, hq.out⟩
          rw [this]; simp, hw.trans (hb.mono hw.size)⟩
      | false =>
        go_wp2_with (go_at_fn g; refine hc.mono ?_; rintro e w1 ⟨rfl, hb⟩)
        go_roundw
        case rel => exact ⟨k + 1, by omega, by go_num, hw.trans (hb.mono hw.size), by
          show ∀ y ∈ xs.take (k + 1), p y = false
          rw [take_snoc' P1.out]
          intro y hy
          rcases List.mem_append.1 hy with h | h
          · exact hF.out y h
          · simp at h; subst h; exact hq.out⟩
        case measure => simp [intOf]; omega
    · obtain rfl : k = m := by omega
      go_wp2_with fail
      go_returns
      exact ⟨-1, rfl, by
        have hF := hF.out
        rw [take_full hm] at hF
        have : xs.any p = false := List.any_eq_false.2 fun y hy => by rw [hF y hy]; simp
        rw [this]; simp, hw⟩

theorem containsFuncPat_c (xs : List GPat) (p : GPat → Bool) (g : Nat) (lb : Array Value) (lo : Nat) (u : Value) (w : World) (hu : Sl GPat.R 1 lo w u xs)
    (hp : ∀ (i : Nat) x r W, xs[i]? = some x → Below w.heap.size w W → GPat.R lo W r x → Calls Tryz.prog g (#[.agg r.toArray] ++ lb) W fun e w' => e = .returned (.bool (p x)) ∧ Below W.heap.size W w') (eg : ∀ args w, (callFunc g args).run Tryz.prog w = .ok (.enter g args) w) :
    Calls Tryz.prog 46 #[u, .func (.func g) #[] lb] w fun e w' => e = .returned (.bool (xs.any p)) ∧ Below w.heap.size w w' := by
  have hc := indexFuncPat_c xs p g lb lo u w hu hp eg
  replace hc : Calls Tryz.prog 85 #[u, .func (.func g) #[] lb] w fun e w' => ∃ n : Int, e = .returned (.int .i64 n) ∧ decide (0 ≤ n) = xs.any p ∧ Below w.heap.size w w' := hc
  clear hp
  generalize xs.any p = q at *
  obtain ⟨ua, uc, rfl⟩ := hu.form
  clear hu
  go_enter Tryz.func46, Tryz.ntmps46
  go_wp2_with (go_at_call 85; refine hc.mono ?_; rintro e w1 ⟨n, rfl, hn, hb⟩)
  go_returns
  exact ⟨rfl, hb⟩

end Go.Proofs.YtaimekaagmcmnaaGreat

/- ProgramOk: the program's. -/
namespace Go.Proofs.YtaimekaagmcmnaaGreat
open Go.RowKit
set_option linter.unusedVariables false
set_option linter.unusedSimpArgs false
attribute [local go_sem] Ext.cell

def kidsAtN (N : List GNode) (i : Nat) : List Int := kidsAt (N.map asD) i
theorem kidsAtN_get {N : List GNode} {i : Nat} {x : GNode} (h : N[i]? = some x) : kidsAtN N i = x.kids := by
  unfold kidsAtN kidsAt
  rw [List.getElem?_map, h]; rfl
def inOrd (N : List GNode) : Bool := decide (endsK N.length (kidsAtN N) (N.length + 1) 0 = N.length)
theorem inOrd_kids {N : List GNode} (h : inOrd N = true) {i : Nat} {x : GNode} (hx : N[i]? = some x) : ∀ k ∈ x.kids, 0 ≤ k ∧ k < (N.length : Int) := by
  have h1 := of_decide_eq_true h
  have h2 := kids_in (d := ⟨N.map asD⟩) (i := i) (x := asD x) (by simp only [List.length_map]; exact h1) (by rw [List.getElem?_map, hx]; rfl)
  simpa [asD] using h2
def shapeP (p : GProgram) : Bool := (decide (1 ≤ (p.nodes.length : Int) ∧ (p.nodes.length : Int) ≤ 600) && decide ((p.types.length : Int) ≤ 8)) && (inOrd p.nodes && (p.nodes.all (nodOk p.nodes) && p.types.all typeOk))
def progOk (p : GProgram) : Bool := shapeP p && p.nodes.all fun x => patsOk x.pats
def nodeSm (x : GNode) : Prop := x.pats.length ≤ 1152921504606846976 ∧ ∀ q ∈ x.pats, q.nodes.length ≤ 1152921504606846976
structure ProgSm (p : GProgram) : Prop where
  n : p.nodes.length ≤ 1152921504606846976
  t : p.types.length ≤ 1152921504606846976
  ts : ∀ t ∈ p.types, typeSm t
  ns : ∀ x ∈ p.nodes, nodeSm x

set_option maxRecDepth 100000 in
set_option maxHeartbeats 4000000 in
theorem shapeKids_c (N : List GNode) (hN : N.length ≤ 1152921504606846976) (u : Value) (lo b : Nat) (w : World) (hu : Sl GNode.R 6 lo w u N) (hb : w.cell? ⟨b, 1, none⟩ = some u) :
    KidsGive N.length (kidsAtN N) 77 #[.pointer (some ⟨b, 0, none⟩)] lo w := by
  intro i hi
  obtain ⟨ua, uc, rfl, ul, um, h0⟩ := hu
  obtain ⟨b1, o1, x, r, _, rfl, P1, ⟨u0, u1, rfl, _, hk, _⟩, r1⟩ := h0.get (Lib.hid rfl) hi
  refine ⟨u0, by rw [kidsAtN_get P1.out]; exact hk, fun W hW => ?_⟩
  have e1 := cell_below hW hb
  have e2 : W.cell? ⟨b1, o1 + i * 6 + 4, none⟩ = some u0 := cell_below hW (by simpa using r1 4 _ rfl)
  clear h0 P1 hk r1 hb hW
  generalize N.length = n at *
  show Calls Tryz.prog 77 #[.int .i64 i, .pointer (some ⟨b, 0, none⟩)] W _
  go_enter Tryz.func77, Tryz.ntmps77
  go_wp2_with fail
  go_returns
  exact ⟨rfl, by go_grown⟩

set_option maxRecDepth 100000 in
set_option maxHeartbeats 4000000 in
theorem badType_c (t : GType) (ht : typeSm t) (r : List Value) (lo : Nat) (w : World) (hr : GType.R lo w r t) :
    Calls Tryz.prog 80 (#[.agg r.toArray] ++ #[]) w fun e w' => e = .returned (.bool (!typeOk t)) ∧ Below w.heap.size w w' := by
  have hR := hr
  obtain ⟨u0, rfl, _, h0⟩ := hr
  have c1 := fun W (hW : Below w.heap.size w W) => typeOk_c t ht _ lo W (GType.good.below hR hW)
  clear h0 hR
  generalize typeOk t = k at *
  obtain ⟨nm, pp, cs⟩ := t
  dsimp only at *
  replace c1 := Lib.hid c1
  show Calls Tryz.prog 80 #[.agg #[.string nm, .int .i64 pp, u0]] w _
  go_enter Tryz.func80, Tryz.ntmps80
  go_upto_region 1 with fail
  have C : RowAt (w.alloc (.cells #[.string nm, .int .i64 pp, u0] 65)) (w.heap.size) 0 [.string nm, .int .i64 pp, u0] := RowAt.box w #[.string nm, .int .i64 pp, u0] 65
  have hw : Below w.heap.size w (w.alloc (.cells #[.string nm, .int .i64 pp, u0] 65)) := by go_grown
  generalize (w.alloc (.cells #[.string nm, .int .i64 pp, u0] 65)) = w0 at *
  obtain ⟨c_0, c_1, c_2⟩ := C.box3; have hsC := World.block_lt_of_cell? _ _ c_0; dsimp only at hsC
  go_wp2_with (go_at_call 81; ((with_reducible refine (c1.out _ hw).mono ?_); rintro e w1 ⟨rfl, hb⟩; have hw := hw.trans (hb.mono hw.size); have C := C.below hb; obtain ⟨c_0, c_1, c_2⟩ := C.box3; have hsC := World.block_lt_of_cell? _ _ c_0; dsimp only at hsC; clear hb))
  go_returns
  exact ⟨rfl, hw⟩

set_option maxRecDepth 100000 in
set_option maxHeartbeats 16000000 in
theorem shapeOk_c (p : GProgram) (hs : ProgSm p) (r : List Value) (lo : Nat) (w : World) (hr : GProgram.R lo w r p) :
    Calls Tryz.prog 43 #[.agg r.toArray, .func (.func 44) #[] #[]] w fun e w' => e = .returned (.bool (shapeP p)) ∧ Below w.heap.size w w' := by
  obtain ⟨Ts, N⟩ := p
  obtain ⟨tv, nv, rfl, -, hT, hN⟩ := hr
  obtain ⟨s1, s2, s3, s4⟩ := hs
  dsimp only at *
  have H1 := fun W (hW : Below w.heap.size w W) => shapeKids_c N s1 nv lo w.heap.size W (hN.below GNode.good hW)
  have H3 := fun W (hk : KidsGive N.length (kidsAtN N) 77 #[.pointer (some ⟨w.heap.size, 0, none⟩)] lo W) => inOrder_c N.length s1 (kidsAtN N) 77 #[.pointer (some ⟨w.heap.size, 0, none⟩)] lo W hk (fun _ _ => by kernel_rfl)
  have H4 := fun W (hW : Below w.heap.size w W) => containsFuncType_c Ts (fun t => !typeOk t) 80 #[] lo tv W (hT.below GType.good hW) (fun i x r W' hi hW' hx => badType_c x (s3 x (List.mem_of_getElem? hi)) r lo W' hx) (fun _ _ => by kernel_rfl)
  have W1 := fun W => within_c N.length 1 600 W
  have hS : shapeP ⟨Ts, N⟩ = ((decide (1 ≤ (N.length : Int) ∧ (N.length : Int) ≤ 600) && decide ((Ts.length : Int) ≤ 8)) && (inOrd N && (N.all (nodOk N) && Ts.all typeOk))) := rfl
  have hany : Ts.any (fun t => !typeOk t) = !Ts.all typeOk := by rw [← List.not_all_eq_any_not]
  generalize shapeP ⟨Ts, N⟩ = res at *
  rw [hany] at H4
  have hin := fun h i x => @inOrd_kids N h i x
  obtain ⟨ta, tc, rfl⟩ := hT.form
  obtain ⟨na, nc, hnv, ul, um, h0⟩ := hN
  subst hnv
  change ∀ W, _ → Calls Tryz.prog 76 _ W (fun e w' => e = .returned (.bool (inOrd N)) ∧ Below W.heap.size W w') at H3
  have hsl : ∀ W, Below w.heap.size w W → Sl GNode.R 6 lo W (.slice na N.length nc) N := fun W hW => ⟨na, nc, rfl, ul, um, h0.below GNode.good hW⟩
  have hkk : ∀ W, Below w.heap.size w W → SlAt GNode.R 6 lo W na N := fun W hW => h0.below GNode.good hW
  have hNN := s1
  obtain ⟨n, hn⟩ : ∃ n, n = N.length := ⟨_, rfl⟩
  obtain ⟨tn, htn⟩ : ∃ tn, tn = Ts.length := ⟨_, rfl⟩
  rw [← hn] at ul H1 H3 W1 s1 hS hsl
  rw [← htn] at hS s2 H4
  rw [← hn, ← htn]
  clear hT h0 s3
  generalize htt : Ts.all typeOk = tt at *
  generalize hio : inOrd N = io at *
  replace hn := Lib.hid hn; replace htn := Lib.hid htn; replace H1 := Lib.hid H1; replace H3 := Lib.hid H3; replace H4 := Lib.hid H4; replace s4 := Lib.hid s4; replace hsl := Lib.hid hsl; replace hkk := Lib.hid hkk; replace hNN := Lib.hid hNN
  replace hS := Lib.hid hS; replace hin := Lib.hid hin
  generalize hd1 : decide (1 ≤ (n : Int) ∧ (n : Int) ≤ 600) = d1 at *
  generalize hd2 : decide ((tn : Int) ≤ 8) = d2 at *
  have hd3 : decide (8 < (tn : Int)) = !d2 := by rw [← hd2, ← decide_not, decide_eq_decide]; omega
  have hd3' : decide (8 < tn) = !d2 := by rw [← hd2, ← decide_not, decide_eq_decide]; omega
  clear hd1 hd2 htt hio
  show Calls Tryz.prog 43 #[.agg #[.slice ta tn tc, .slice na n nc], .func (.func 44) #[] #[]] w _
  cases d1
  · have hr : res = false := hS.out
    subst hr
    clear hS
    go_enter Tryz.func43, Tryz.ntmps43
    go_upto_region 1 with fail
    have D : RowAt (w.alloc (.cells #[.slice ta tn tc, .slice na n nc] 32)) (w.heap.size) 0 [.slice ta tn tc, .slice na n nc] := RowAt.box w #[.slice ta tn tc, .slice na n nc] 32
    have hw : Below w.heap.size w (w.alloc (.cells #[.slice ta tn tc, .slice na n nc] 32)) := by go_grown
    generalize (w.alloc (.cells #[.slice ta tn tc, .slice na n nc] 32)) = w0 at *
    obtain ⟨d_0, d_1⟩ := D.box2; have hsD := World.block_lt_of_cell? _ _ d_0; dsimp only at hsD
    go_wp2_with (go_at_call 75; ((with_reducible refine (W1 _).mono ?_); rintro e w1 ⟨rfl, rfl⟩))
    go_returns
    exact ⟨rfl, hw⟩
  cases d2
  · have hr : res = false := hS.out
    replace hd3 : decide (8 < (tn : Int)) = true := hd3
    replace hd3' : decide (8 < tn) = true := hd3'
    subst hr
    clear hS
    go_enter Tryz.func43, Tryz.ntmps43
    go_upto_region 1 with fail
    have D : RowAt (w.alloc (.cells #[.slice ta tn tc, .slice na n nc] 32)) (w.heap.size) 0 [.slice ta tn tc, .slice na n nc] := RowAt.box w #[.slice ta tn tc, .slice na n nc] 32
    have hw : Below w.heap.size w (w.alloc (.cells #[.slice ta tn tc, .slice na n nc] 32)) := by go_grown
    generalize (w.alloc (.cells #[.slice ta tn tc, .slice na n nc] 32)) = w0 at *
    obtain ⟨d_0, d_1⟩ := D.box2; have hsD := World.block_lt_of_cell? _ _ d_0; dsimp only at hsD
    go_wp2_with (go_at_call 75; ((with_reducible refine (W1 _).mono ?_); rintro e w1 ⟨rfl, rfl⟩))
    go_returns
    exact ⟨rfl, hw⟩
  replace hd3 : decide (8 < (tn : Int)) = false := hd3
  replace hd3' : decide (8 < tn) = false := hd3'
  cases io
  · have hr : res = false := hS.out
    subst hr
    clear hS
    go_enter Tryz.func43, Tryz.ntmps43
    go_upto_region 1 with fail
    have D : RowAt (w.alloc (.cells #[.slice ta tn tc, .slice na n nc] 32)) (w.heap.size) 0 [.slice ta tn tc, .slice na n nc] := RowAt.box w #[.slice ta tn tc, .slice na n nc] 32
    have hw : Below w.heap.size w (w.alloc (.cells #[.slice ta tn tc, .slice na n nc] 32)) := by go_grown
    generalize (w.alloc (.cells #[.slice ta tn tc, .slice na n nc] 32)) = w0 at *
    obtain ⟨d_0, d_1⟩ := D.box2; have hsD := World.block_lt_of_cell? _ _ d_0; dsimp only at hsD
    go_wp2_with (first | (go_at_call 75; ((with_reducible refine (W1 _).mono ?_); rintro e w1 ⟨rfl, rfl⟩)) | (go_at_call 76; ((with_reducible refine (H3.out _ (H1.out _ hw d_1)).mono ?_); rintro e w1 ⟨rfl, hb⟩; have hw := hw.trans (hb.mono hw.size); have D := D.below hb; obtain ⟨d_0, d_1⟩ := D.box2; have hsD := World.block_lt_of_cell? _ _ d_0; dsimp only at hsD; clear hb)))
    go_returns
    exact ⟨rfl, hw⟩
  replace hS : Hid (res = (N.all (nodOk N) && tt)) := hS
  have hin2 : ∀ (i : Nat) x, N[i]? = some x → ∀ k ∈ x.kids, 0 ≤ k ∧ k < (N.length : Int) := hin.out rfl
  clear hin
  replace hin2 := Lib.hid hin2
  go_enter Tryz.func43, Tryz.ntmps43
  go_upto_region 1 with fail
  have D : RowAt (w.alloc (.cells #[.slice ta tn tc, .slice na n nc] 32)) (w.heap.size) 0 [.slice ta tn tc, .slice na n nc] := RowAt.box w #[.slice ta tn tc, .slice na n nc] 32
  have hw : Below w.heap.size w (w.alloc (.cells #[.slice ta tn tc, .slice na n nc] 32)) := by go_grown
  generalize (w.alloc (.cells #[.slice ta tn tc, .slice na n nc] 32)) = w0 at *
  obtain ⟨d_0, d_1⟩ := D.box2; have hsD := World.block_lt_of_cell? _ _ d_0; dsimp only at hsD
  go_wp2_with (first | (go_at_call 75; ((with_reducible refine (W1 _).mono ?_); rintro e w1 ⟨rfl, rfl⟩)) | (go_at_call 76; ((with_reducible refine (H3.out _ (H1.out _ hw d_1)).mono ?_); rintro e w1 ⟨rfl, hb⟩; have hw := hw.trans (hb.mono hw.size); have D := D.below hb; obtain ⟨d_0, d_1⟩ := D.box2; have hsD := World.block_lt_of_cell? _ _ d_0; dsimp only at hsD; clear hb)))
  go_loopw [27] (fun ii wr => ∃ k : Nat, k ≤ n ∧ ii = .int .i64 k ∧ Hid (∀ y ∈ N.take k, nodOk N y = true) ∧ Below w.heap.size w wr ∧ RowAt wr w.heap.size 0 [.slice ta tn tc, .slice na n nc]) (fun ii _ => n - (intOf ii).toNat)
  case atStart => exact ⟨0, by omega, rfl, fun y hy => by simp at hy, hw, D⟩
  case round =>
    clear hw D d_0 d_1 hsD
    obtain ⟨k, hk, rfl, hF, hw, D⟩ := hrel
    have hsz := hw.size
    obtain ⟨d_0, d_1⟩ := D.box2; have hsD := World.block_lt_of_cell? _ _ d_0; dsimp only at hsD
    by_cases hlt : k < n
    · obtain ⟨b1, o1, x, r, _, rfl, P1, hx, r1⟩ := (hkk.out _ hw).get hn.out hlt
      have P1' := P1.out
      have hxs := s4.out x (List.mem_of_getElem? P1')
      have hxin := hin2.out k x P1'
      have hgood := fun h => all_stepL (f := nodOk N) hF.out P1' h
      have hbadp : nodOk N x = false → res = false := fun h => by rw [hS.out, all_bad P1' h]; rfl
      obtain ⟨v0, v1, rfl, hwf, hk0, hp0⟩ := hx
      have cN := fun W (hW : Below wr.heap.size wr W) (hW2 : Below w.heap.size w W) => nodeOkN_c x hwf N hNN.out (.slice ta tn tc) (some ⟨b1, o1, none⟩) nc v0 v1 lo lo W (hn.out ▸ hsl.out W hW2) (hk0.below IntR.good hW) (by obtain ⟨pa, pc, h⟩ := hp0.form; exact ⟨pa, pc, h⟩) hxs.1 hxin
      rw [← hn.out] at cN
      generalize nodOk N x = q at *
      obtain ⟨kd, at_, nn, s, ks, ps⟩ := x
      obtain ⟨ka, kc, rfl⟩ := hk0.form
      obtain ⟨pa, pc, rfl⟩ := hp0.form
      dsimp only at *
      obtain ⟨e_0, e_1, e_2, e_3, e_4, e_5⟩ := r1.cells6
      have hbb1 := World.block_lt_of_cell? _ _ e_0; dsimp only at hbb1
      clear hk0 hp0 hwf r1 P1 P1' hxin hxs hF
      generalize ks.length = m at *
      generalize ps.length = pm at *
      replace hgood := Lib.hid hgood; replace hbadp := Lib.hid hbadp; replace cN := Lib.hid cN
      go_upto_region 8 with fail
      have hb1 : Below wr.heap.size wr (wr.alloc (.cells #[.int .i64 kd, .int .i64 at_, .int .i64 nn, .string s, .slice ka m kc, .slice pa pm pc] 74)) := by go_grown
      have E : RowAt (wr.alloc (.cells #[.int .i64 kd, .int .i64 at_, .int .i64 nn, .string s, .slice ka m kc, .slice pa pm pc] 74)) wr.heap.size 0 [.int .i64 kd, .int .i64 at_, .int .i64 nn, .string s, .slice ka m kc, .slice pa pm pc] := RowAt.box _ _ _
      have hw' := hw.trans (hb1.mono hsz)
      have D' := D.below hb1
      have cN' := cN.out _ hb1 hw'
      generalize wr.alloc (.cells #[.int .i64 kd, .int .i64 at_, .int .i64 nn, .string s, .slice ka m kc, .slice pa pm pc] 74) = w2 at *
      clear hw D d_0 d_1 hsD e_0 e_1 e_2 e_3 e_4 e_5 hb1 cN
      have hw := hw'; have D := D'
      clear hw' D'
      replace cN' := Lib.hid cN'
      obtain ⟨d_0, d_1⟩ := D.box2; have hsD := World.block_lt_of_cell? _ _ d_0; dsimp only at hsD; obtain ⟨e_0, e_1, e_2, e_3, e_4, e_5⟩ := E.box6; have hsE := World.block_lt_of_cell? _ _ e_0; dsimp only at hsE
      cases q
      · have hr := hbadp.out rfl
        subst hr
        clear hbadp hgood hS
        go_wp2_with (go_at_call 78; ((with_reducible refine (cN'.out).mono ?_); rintro e w1 ⟨rfl, hb⟩; have hw := hw.trans (hb.mono hw.size); have D := D.below hb; obtain ⟨d_0, d_1⟩ := D.box2; have hsD := World.block_lt_of_cell? _ _ d_0; dsimp only at hsD; have E := E.below hb; obtain ⟨e_0, e_1, e_2, e_3, e_4, e_5⟩ := E.box6; have hsE := World.block_lt_of_cell? _ _ e_0; dsimp only at hsE; clear hb))
        go_returns
        exact ⟨rfl, hw⟩
      · have hF := Lib.hid (hgood.out rfl)
        clear hbadp hgood
        go_wp2_with (go_at_call 78; ((with_reducible refine (cN'.out).mono ?_); rintro e w1 ⟨rfl, hb⟩; have hw := hw.trans (hb.mono hw.size); have D := D.below hb; obtain ⟨d_0, d_1⟩ := D.box2; have hsD := World.block_lt_of_cell? _ _ d_0; dsimp only at hsD; have E := E.below hb; obtain ⟨e_0, e_1, e_2, e_3, e_4, e_5⟩ := E.box6; have hsE := World.block_lt_of_cell? _ _ e_0; dsimp only at hsE; clear hb))
        go_roundw
        case rel => exact ⟨k + 1, by omega, by go_num, hF, hw, D⟩
        case measure => simp [intOf]; omega
    · obtain rfl : k = n := by omega
      have hr : res = tt := by rw [hS.out, all_full hF.out hn.out]; rfl
      subst hr
      clear hF hS
      go_wp2_with (go_at_call 79; ((with_reducible refine (H4.out _ hw).mono ?_); rintro e w1 ⟨rfl, hb⟩; have hw := hw.trans (hb.mono hw.size); have D := D.below hb; obtain ⟨d_0, d_1⟩ := D.box2; have hsD := World.block_lt_of_cell? _ _ d_0; dsimp only at hsD; clear hb))
      go_returns
      exact ⟨by simp, hw⟩
end Go.Proofs.YtaimekaagmcmnaaGreat

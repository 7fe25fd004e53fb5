/- Parts of the proof, merged: InsOk3a, PatD, Node, Node2. -/
import Derived.Shelf.Abstract
import Derived.Deep.RegionLaw
import Derived.Test.YtaimekaagmcmnaaGreatNe28
/- When an instruction is right: the reference's test: its parts. -/
namespace Go.Proofs.YtaimekaagmcmnaaGreat
open Go.RowKit
set_option linter.unusedVariables false
set_option linter.unusedSimpArgs false
attribute [local go_sem] Ext.cell

set_option maxRecDepth 100000 in
set_option maxHeartbeats 4000000 in
theorem l04Prim_c (s : ByteArray) (w : World) : Calls Tryz.prog 68 #[.string s] w fun e w' => e = .returned (.bool (primOk s)) ∧ Below w.heap.size w w' := by
  have H := row_strs (prim_row w 9) prim_ok 10 (by decide) (by omega)
  obtain ⟨W0, hW0⟩ : ∃ W0, W0 = w.alloc (.cells (primB.map Value.string).toArray 9) := ⟨_, rfl⟩
  have hw0 : Below w.heap.size w W0 := by rw [hW0]; go_grown
  rw [← hW0] at H
  obtain ⟨a, c, hv, -, -, h0⟩ := H
  injection hv with e1 e2 e3
  subst e1
  replace h0 := Lib.hid h0
  clear e2 e3
  go_enter Tryz.func68, Tryz.ntmps68
  go_upto_region 2 with fail
  rw [show w.alloc (.cells #[.string ⟨#[43]⟩, .string ⟨#[45]⟩, .string ⟨#[42]⟩, .string ⟨#[47]⟩, .string ⟨#[37]⟩, .string ⟨#[94]⟩, .string ⟨#[61]⟩, .string ⟨#[60, 62]⟩, .string ⟨#[60]⟩, .string ⟨#[60, 61]⟩] 9) = W0 from hW0.symm]
  clear hW0
  go_loopw [7] (fun i wr => ∃ k : Nat, k ≤ 10 ∧ i = .int .i64 k ∧ Below w.heap.size w wr ∧ Below W0.heap.size W0 wr ∧ Hid (∀ y ∈ primB.take k, (s.toList == y.toList) = false)) (fun i _ => 10 - (intOf i).toNat)
  case atStart => exact ⟨0, by omega, rfl, hw0, Below.refl _ _, fun y hy => by simp at hy⟩
  case round =>
    obtain ⟨k, hk, rfl, hw, hw1, hF⟩ := hrel
    have hlen : primB.length = 10 := rfl
    by_cases hlt : k < 10
    · obtain ⟨b1, o1, x, r, _, hab, P1, ⟨rfl, -⟩, r1⟩ := (h0.out.below StrR.good hw1).get (n := 10) (Lib.hid rfl) hlt
      obtain ⟨rfl, rfl⟩ : w.heap.size = b1 ∧ 0 = o1 := by injection hab with h; injection h with h1 h2; exact ⟨h1, h2⟩
      have e0 : wr.cell? ⟨w.heap.size, k, none⟩ = some (.string x) := by simpa using r1 0 _ rfl
      clear r1 hab hlen
      cases hq : (s.toList == x.toList) with
      | true =>
        have hfin : primOk s = true := List.any_eq_true.2 ⟨x, List.mem_of_getElem? P1.out, by simpa using hq⟩
        replace hfin := Lib.hid hfin
        go_wp2_with fail
        go_returns
        exact ⟨by rw [hfin.out]; rfl, hw⟩
      | false =>
        have hq' := Lib.hid hq
        go_wp2_with fail
        go_roundw
        case rel => exact ⟨k + 1, by omega, by go_num, hw, hw1, by
          show ∀ y ∈ primB.take (k + 1), (s.toList == y.toList) = false
          rw [take_snoc' P1.out]
          intro y hy
          rcases List.mem_append.1 hy with h | h
          · exact hF.out y h
          · simp at h; subst h; exact hq'.out⟩
        case measure => simp [intOf]; omega
    · obtain rfl : k = 10 := by omega
      have hfin : primOk s = false := List.any_eq_false.2 fun y hy => by rw [hF.out y (by rw [List.take_of_length_le (by rw [hlen]; omega)]; exact hy)]; simp
      replace hfin := Lib.hid hfin
      clear hlen
      go_wp2_with fail
      go_returns
      exact ⟨by rw [hfin.out]; rfl, hw⟩

end Go.Proofs.YtaimekaagmcmnaaGreat

/- A pattern read as a value (the same cells). -/
namespace Go.Proofs.YtaimekaagmcmnaaGreat
open Go.RowKit
set_option linter.unusedVariables false
set_option linter.unusedSimpArgs false

def toD (x : GPNode) : GDNode := ⟨x.kind, x.n, x.s, x.kids⟩
def patD (q : GPat) : GData := ⟨q.nodes.map toD⟩
theorem Sl.map' {α β : Type} {R : Reading α} {R' : Reading β} (f : α → β) (hf : ∀ lo w r x, R lo w r x → R' lo w r (f x)) {sz lo : Nat} {w : World} {v : Value} {xs : List α} (h : Sl R sz lo w v xs) : Sl R' sz lo w v (xs.map f) := by
  obtain ⟨a, c, rfl, h1, h2, h3⟩ := h
  refine ⟨a, c, by rw [List.length_map], by rw [List.length_map]; exact h1, h2, fun h0 => ?_⟩
  obtain ⟨b, off, h4, h5, h6⟩ := h3 (by rwa [List.length_map] at h0)
  refine ⟨b, off, h4, h5, fun i y hy => ?_⟩
  rw [List.getElem?_map] at hy
  obtain ⟨x, hx, rfl⟩ := Option.map_eq_some_iff.1 hy
  obtain ⟨r, h7, h8⟩ := h6 i x hx
  exact ⟨r, hf _ _ _ _ h7, h8⟩
theorem GPat.toData {lo : Nat} {w : World} {r : List Value} {q : GPat} (h : GPat.R lo w r q) : GData.R lo w r (patD q) := by
  obtain ⟨u0, hr, _, h0⟩ := h
  exact ⟨u0, hr, trivial, h0.map' toD fun lo w r x hx => hx⟩
end Go.Proofs.YtaimekaagmcmnaaGreat

/- A program's node: when it is right; arity; the name's closure. -/
namespace Go.Proofs.YtaimekaagmcmnaaGreat
open Go.RowKit
set_option linter.unusedVariables false
set_option linter.unusedSimpArgs false
attribute [local go_sem] Ext.cell

def asD (x : GNode) : GDNode := ⟨x.kind, x.n, x.s, x.kids⟩
def nkind (N : List GNode) (k : Int) : Int := if 0 ≤ k then (N[k.toNat]?.map (·.kind)).getD 0 else 0
def firstK (N : List GNode) (ks : List Int) : Int := match ks with
  | k :: _ => nkind N k
  | [] => 0
def arP (k : Int) : Int := if k = 1 ∨ k = 2 ∨ k = 3 ∨ k = 12 then 0 else if k = 5 ∨ k = 14 ∨ k = 16 ∨ k = 17 then 1 else if k = 6 ∨ k = 7 ∨ k = 8 ∨ k = 10 ∨ k = 11 ∨ k = 15 ∨ k = 18 ∨ k = 19 then 2 else if k = 9 then 3 else -1
def nodBad (x : GNode) : Bool := (decide (x.at_ < 0) || (decide (0 ≤ arP x.kind) && ((x.kids.length : Int) != arP x.kind))) || ((x.kind != 13 && decide (0 < (x.pats.length : Int))) || ((x.kind != 1 && x.kind != 3) && (x.n != 0)))
def nameN (x : GNode) : Bool := nameOk x.s && x.n == 0
def nodBody (N : List GNode) (x : GNode) : Bool :=
  if x.kind = 1 then decide (0 ≤ x.n ∧ x.n ≤ 4611686018427387903) && x.s.toList.isEmpty
  else if x.kind = 2 then true
  else if x.kind = 3 ∨ x.kind = 5 ∨ x.kind = 7 ∨ x.kind = 15 then nameN x
  else if x.kind = 8 then nameN x && firstK N x.kids == 5
  else if x.kind = 10 then primOk x.s
  else if x.kind = 4 then conShape x.s x.kids.length ((x.kids.length : Int) == 1 && firstK N x.kids == 11)
  else if x.kind = 6 ∨ x.kind = 9 ∨ x.kind = 11 ∨ x.kind = 12 ∨ x.kind = 14 ∨ x.kind = 16 ∨ x.kind = 17 ∨ x.kind = 18 ∨ x.kind = 19 then x.s.toList.isEmpty
  else if x.kind = 13 then x.s.toList.isEmpty && (decide (1 ≤ (x.pats.length : Int)) && (x.kids.length : Int) == (x.pats.length : Int) + 1)
  else false
def nodOk (N : List GNode) (x : GNode) : Bool := !nodBad x && nodBody N x

theorem kind19 (k : Int) : k = 1 ∨ k = 2 ∨ k = 3 ∨ k = 4 ∨ k = 5 ∨ k = 6 ∨ k = 7 ∨ k = 8 ∨ k = 9 ∨ k = 10 ∨ k = 11 ∨ k = 12 ∨ k = 13 ∨ k = 14 ∨ k = 15 ∨ k = 16 ∨ k = 17 ∨ k = 18 ∨ k = 19 ∨ (k < 1 ∨ 19 < k) := by omega
theorem kindOut {k : Int} (h : k < 1 ∨ 19 < k) : ∀ j : Int, 1 ≤ j → j ≤ 19 → (k == j) = false := fun j h1 h2 => by rw [beq_eq_false_iff_ne]; omega
theorem arP_out {k : Int} (h : k < 1 ∨ 19 < k) : arP k = -1 := by
  unfold arP
  rw [if_neg (by omega), if_neg (by omega), if_neg (by omega), if_neg (by omega)]

set_option maxRecDepth 100000 in
set_option maxHeartbeats 4000000 in
theorem arity_c (k : Int) (w : World) : Calls Tryz.prog 107 #[.int .i64 k] w fun e w' => e = .returned (.int .i64 (arP k)) ∧ w = w' := by
  rcases kind19 k with rfl | rfl | rfl | rfl | rfl | rfl | rfl | rfl | rfl | rfl | rfl | rfl | rfl | rfl | rfl | rfl | rfl | rfl | rfl | h
  case inr.inr.inr.inr.inr.inr.inr.inr.inr.inr.inr.inr.inr.inr.inr.inr.inr.inr.inr =>
    rw [arP_out h]
    have hj := kindOut h
    have n1 := hj 1 (by omega) (by omega); have n2 := hj 2 (by omega) (by omega); have n3 := hj 3 (by omega) (by omega); have n4 := hj 4 (by omega) (by omega); have n5 := hj 5 (by omega) (by omega); have n6 := hj 6 (by omega) (by omega); have n7 := hj 7 (by omega) (by omega); have n8 := hj 8 (by omega) (by omega); have n9 := hj 9 (by omega) (by omega); have n10 := hj 10 (by omega) (by omega); have n11 := hj 11 (by omega) (by omega); have n12 := hj 12 (by omega) (by omega); have n13 := hj 13 (by omega) (by omega); have n14 := hj 14 (by omega) (by omega); have n15 := hj 15 (by omega) (by omega); have n16 := hj 16 (by omega) (by omega); have n17 := hj 17 (by omega) (by omega); have n18 := hj 18 (by omega) (by omega); have n19 := hj 19 (by omega) (by omega)
    clear hj h
    go_enter Tryz.func107, Tryz.ntmps107
    go_wp2_with fail
    go_returns
    exact ⟨rfl, rfl⟩
  all_goals
    go_enter Tryz.func107, Tryz.ntmps107
    go_wp2_with fail
    go_returns
    exact ⟨rfl, rfl⟩
set_option maxRecDepth 100000 in
set_option maxHeartbeats 4000000 in
theorem l04Kids_c (k : Int) (w : World) : Calls Tryz.prog 71 #[.int .i64 k] w fun e w' => e = .returned (.int .i64 (arP k)) ∧ w = w' := by
  rcases kind19 k with rfl | rfl | rfl | rfl | rfl | rfl | rfl | rfl | rfl | rfl | rfl | rfl | rfl | rfl | rfl | rfl | rfl | rfl | rfl | h
  case inr.inr.inr.inr.inr.inr.inr.inr.inr.inr.inr.inr.inr.inr.inr.inr.inr.inr.inr =>
    rw [arP_out h]
    have hj := kindOut h
    have n1 := hj 1 (by omega) (by omega); have n2 := hj 2 (by omega) (by omega); have n3 := hj 3 (by omega) (by omega); have n4 := hj 4 (by omega) (by omega); have n5 := hj 5 (by omega) (by omega); have n6 := hj 6 (by omega) (by omega); have n7 := hj 7 (by omega) (by omega); have n8 := hj 8 (by omega) (by omega); have n9 := hj 9 (by omega) (by omega); have n10 := hj 10 (by omega) (by omega); have n11 := hj 11 (by omega) (by omega); have n12 := hj 12 (by omega) (by omega); have n13 := hj 13 (by omega) (by omega); have n14 := hj 14 (by omega) (by omega); have n15 := hj 15 (by omega) (by omega); have n16 := hj 16 (by omega) (by omega); have n17 := hj 17 (by omega) (by omega); have n18 := hj 18 (by omega) (by omega); have n19 := hj 19 (by omega) (by omega)
    clear hj h
    go_enter Tryz.func71, Tryz.ntmps71
    go_wp2_with fail
    go_returns
    exact ⟨rfl, rfl⟩
  all_goals
    go_enter Tryz.func71, Tryz.ntmps71
    go_wp2_with fail
    go_returns
    exact ⟨rfl, rfl⟩

set_option maxRecDepth 100000 in
set_option maxHeartbeats 4000000 in
theorem nameN_c (kd at_ nn : Int) (s : ByteArray) (u0 u1 : Value) (hs : StrOk s) (w : World) : Calls Tryz.prog 44 #[.agg #[.int .i64 kd, .int .i64 at_, .int .i64 nn, .string s, u0, u1]] w fun e w' => e = .returned (.bool (nameOk s && nn == 0)) ∧ Below w.heap.size w w' := by
  have cN := fun W => impl_NameOk_c s hs W
  generalize nameOk s = q at *
  cases q <;> cases e1 : (nn == 0)
  all_goals
    go_enter Tryz.func44, Tryz.ntmps44
    go_upto_region 1 with fail
    have D : RowAt (w.alloc (.cells #[.int .i64 kd, .int .i64 at_, .int .i64 nn, .string s, u0, u1] 74)) (w.heap.size) 0 [.int .i64 kd, .int .i64 at_, .int .i64 nn, .string s, u0, u1] := RowAt.box w #[.int .i64 kd, .int .i64 at_, .int .i64 nn, .string s, u0, u1] 74
    have hw : Below w.heap.size w (w.alloc (.cells #[.int .i64 kd, .int .i64 at_, .int .i64 nn, .string s, u0, u1] 74)) := by go_grown
    generalize (w.alloc (.cells #[.int .i64 kd, .int .i64 at_, .int .i64 nn, .string s, u0, u1] 74)) = w0 at *
    obtain ⟨d_0, d_1, d_2, d_3, d_4, d_5⟩ := D.box6; have hsD := World.block_lt_of_cell? _ _ d_0; dsimp only at hsD
    go_wp2_with (go_at_call 45; ((with_reducible refine (cN _).mono ?_); rintro e w1 ⟨rfl, hb⟩; have hw := hw.trans (hb.mono hw.size); have D := D.below hb; obtain ⟨d_0, d_1, d_2, d_3, d_4, d_5⟩ := D.box6; have hsD := World.block_lt_of_cell? _ _ d_0; dsimp only at hsD; clear hb))
    go_returns
    exact ⟨rfl, hw⟩
end Go.Proofs.YtaimekaagmcmnaaGreat

/- A program's node: the program's test. -/
namespace Go.Proofs.YtaimekaagmcmnaaGreat
open Go.RowKit
set_option linter.unusedVariables false
set_option linter.unusedSimpArgs false
attribute [local go_sem] Ext.cell

set_option maxRecDepth 100000 in
set_option maxHeartbeats 16000000 in
theorem nodeOkN_c (x : GNode) (hx : x.wf) (N : List GNode) (hN : N.length ≤ 1152921504606846976) (tv : Value) (na : Option Addr) (nc : Nat) (u0 u1 : Value) (lo1 lo2 : Nat) (w : World)
    (h0 : Sl GNode.R 6 lo1 w (.slice na N.length nc) N) (hk : Sl IntR 1 lo2 w u0 x.kids) (hp : ∃ pa pc, u1 = .slice pa x.pats.length pc) (hpl : x.pats.length ≤ 1152921504606846976) (hin : ∀ k ∈ x.kids, 0 ≤ k ∧ k < (N.length : Int)) :
    Calls Tryz.prog 78 #[.agg #[tv, .slice na N.length nc], .agg #[.int .i64 x.kind, .int .i64 x.at_, .int .i64 x.n, .string x.s, u0, u1], .func (.func 44) #[] #[]] w fun e w' => e = .returned (.bool (nodOk N x)) ∧ Below w.heap.size w w' := by
  obtain ⟨kd, at_, nn, s, ks, ps⟩ := x
  obtain ⟨pa, pc, rfl⟩ := hp
  obtain ⟨ka, kc, rfl, kl, km, k0⟩ := hk
  obtain ⟨hxk, hxa, hxn, hss⟩ := hx
  dsimp only at *
  have hres : nodOk N ⟨kd, at_, nn, s, ks, ps⟩ = (!nodBad ⟨kd, at_, nn, s, ks, ps⟩ && nodBody N ⟨kd, at_, nn, s, ks, ps⟩) := rfl
  have hB0 : nodBad ⟨kd, at_, nn, s, ks, ps⟩ = ((decide (at_ < 0) || (decide (0 ≤ arP kd) && ((ks.length : Int) != arP kd))) || ((kd != 13 && decide (0 < (ps.length : Int))) || ((kd != 1 && kd != 3) && (nn != 0)))) := rfl
  generalize nodOk N ⟨kd, at_, nn, s, ks, ps⟩ = res at *
  generalize nodBad ⟨kd, at_, nn, s, ks, ps⟩ = bad at *
  have hfk : 0 < ks.length → ∃ (j : Nat) (b o b2 o2 : Nat) (y : Int), ka = some ⟨b, o, none⟩ ∧ na = some ⟨b2, o2, none⟩ ∧ w.cell? ⟨b, o, none⟩ = some (.int .i64 (j : Int)) ∧ j < N.length ∧ w.cell? ⟨b2, o2 + j * 6, none⟩ = some (.int .i64 y) ∧ firstK N ks = y := fun h => by
    obtain ⟨b1, o1, z, r, _, rfl, P1, ⟨rfl, _⟩, r1⟩ := k0.get (Lib.hid rfl) h
    obtain ⟨hz0, hz1⟩ := hin z (List.mem_of_getElem? P1.out)
    obtain ⟨j, rfl⟩ : ∃ j : Nat, z = j := ⟨z.toNat, by omega⟩
    obtain ⟨na', nc', he, _, _, n0⟩ := h0
    obtain ⟨rfl, rfl⟩ : na' = na ∧ nc' = nc := by injection he with a b c; exact ⟨a.symm, c.symm⟩
    obtain ⟨b2, o2, y, r', _, rfl, P2, ⟨v0, v1, rfl, _⟩, r2⟩ := n0.get (Lib.hid rfl) (show j < N.length by omega)
    refine ⟨j, b1, o1, b2, o2, y.kind, rfl, rfl, by simpa using r1 0 _ rfl, by omega, by simpa using r2 0 _ rfl, ?_⟩
    have hks : ks = (j : Int) :: ks.drop 1 := by
      have := P1.out
      cases ks with
      | nil => simp at h
      | cons a l => simp at this; subst this; rfl
    rw [hks]
    show nkind N j = _
    unfold nkind
    rw [if_pos (by omega), Int.toNat_natCast, P2.out]; rfl
  clear hin h0 k0
  obtain ⟨m, hm⟩ : ∃ m, m = ks.length := ⟨_, rfl⟩
  obtain ⟨n, hn⟩ : ∃ n, n = N.length := ⟨_, rfl⟩
  obtain ⟨pm, hpm⟩ : ∃ pm, pm = ps.length := ⟨_, rfl⟩
  have hBody : nodBody N ⟨kd, at_, nn, s, ks, ps⟩ = 
    if kd = 1 then decide (0 ≤ nn ∧ nn ≤ 4611686018427387903) && s.toList.isEmpty
    else if kd = 2 then true
    else if kd = 3 ∨ kd = 5 ∨ kd = 7 ∨ kd = 15 then (nameOk s && nn == 0)
    else if kd = 8 then (nameOk s && nn == 0) && firstK N ks == 5
    else if kd = 10 then primOk s
    else if kd = 4 then conShape s ks.length ((ks.length : Int) == 1 && firstK N ks == 11)
    else if kd = 6 ∨ kd = 9 ∨ kd = 11 ∨ kd = 12 ∨ kd = 14 ∨ kd = 16 ∨ kd = 17 ∨ kd = 18 ∨ kd = 19 then s.toList.isEmpty
    else if kd = 13 then s.toList.isEmpty && (decide (1 ≤ (ps.length : Int)) && (ks.length : Int) == (ps.length : Int) + 1)
    else false := rfl
  generalize nodBody N ⟨kd, at_, nn, s, ks, ps⟩ = body at *
  rw [← hm, ← hpm] at hBody
  rw [← hm, ← hpm] at hB0
  rw [← hm, ← hn] at hfk
  rw [← hm] at kl
  rw [← hm, ← hn, ← hpm]
  rw [← hn] at hN
  rw [← hpm] at hpl
  have cA := fun W => arity_c kd W
  have cN := fun W => nameN_c kd at_ nn s (.slice ka m kc) (.slice pa pm pc) hss W
  have cS := fun p W => conShape_c s m p hss W
  generalize firstK N ks = fk at *
  obtain ⟨ar, har⟩ : ∃ ar, arP kd = ar := ⟨_, rfl⟩
  have har5 : kd = 8 → 0 ≤ ar ∧ ar = 2 := fun h => by subst h; rw [← har]; exact ⟨by decide, rfl⟩
  rw [har] at hB0 cA
  clear hm hn hpm
  replace hB0 := Lib.hid hB0; replace hBody := Lib.hid hBody; replace hres := Lib.hid hres; replace hfk := Lib.hid hfk; replace har := Lib.hid har; replace har5 := Lib.hid har5
  go_enter Tryz.func78, Tryz.ntmps78
  go_upto_region 1 with fail
  have D : RowAt (w.alloc (.cells #[tv, .slice na n nc] 32)) (w.heap.size) 0 [tv, .slice na n nc] := RowAt.box w #[tv, .slice na n nc] 32
  have D := D.below (show Below (w.alloc (.cells #[tv, .slice na n nc] 32)).heap.size (w.alloc (.cells #[tv, .slice na n nc] 32)) ((w.alloc (.cells #[tv, .slice na n nc] 32)).alloc (.cells #[.int .i64 kd, .int .i64 at_, .int .i64 nn, .string s, .slice ka m kc, .slice pa pm pc] 74)) by go_grown)
  have E : RowAt ((w.alloc (.cells #[tv, .slice na n nc] 32)).alloc (.cells #[.int .i64 kd, .int .i64 at_, .int .i64 nn, .string s, .slice ka m kc, .slice pa pm pc] 74)) (w.heap.size + 1) 0 [.int .i64 kd, .int .i64 at_, .int .i64 nn, .string s, .slice ka m kc, .slice pa pm pc] := by have h := RowAt.box (w.alloc (.cells #[tv, .slice na n nc] 32)) #[.int .i64 kd, .int .i64 at_, .int .i64 nn, .string s, .slice ka m kc, .slice pa pm pc] 74; simp only [World.size_alloc] at h; exact h
  have hw : Below w.heap.size w ((w.alloc (.cells #[tv, .slice na n nc] 32)).alloc (.cells #[.int .i64 kd, .int .i64 at_, .int .i64 nn, .string s, .slice ka m kc, .slice pa pm pc] 74)) := by go_grown
  generalize ((w.alloc (.cells #[tv, .slice na n nc] 32)).alloc (.cells #[.int .i64 kd, .int .i64 at_, .int .i64 nn, .string s, .slice ka m kc, .slice pa pm pc] 74)) = w0 at *
  have hw1 : Below w.heap.size w w0 := hw
  obtain ⟨d_0, d_1⟩ := D.box2; have hsD := World.block_lt_of_cell? _ _ d_0; dsimp only at hsD; obtain ⟨e_0, e_1, e_2, e_3, e_4, e_5⟩ := E.box6; have hsE := World.block_lt_of_cell? _ _ e_0; dsimp only at hsE
  go_upto_region 3 with (go_at_call 107; ((with_reducible refine (cA _).mono ?_); rintro e w1 ⟨rfl, rfl⟩))
  go_cut [52] (fun sx wx => sx = .bool bad ∧ wx = w0)
  case first =>
    cases a1 : decide (at_ < 0)
    · cases a2 : decide (0 ≤ ar)
      · cases a4 : (kd != 13)
        · cases a6 : (kd != 1)
          · (go_wp2_with fail; go_meet; refine ⟨?_, rfl⟩; rw [hB0.out]; simp [*]; done)
          · cases a7 : (kd != 3)
            · (go_wp2_with fail; go_meet; refine ⟨?_, rfl⟩; rw [hB0.out]; simp [*]; done)
            · cases a8 : (nn != 0)
              · (go_wp2_with fail; go_meet; refine ⟨?_, rfl⟩; rw [hB0.out]; simp [*]; done)
              · (go_wp2_with fail; go_meet; refine ⟨?_, rfl⟩; rw [hB0.out]; simp [*]; done)
        · cases a5 : decide (0 < (pm : Int))
          · have a5' : decide (0 < pm) = false := by rw [← a5, decide_eq_decide]; omega
            cases a6 : (kd != 1)
            · (go_wp2_with fail; go_meet; refine ⟨?_, rfl⟩; rw [hB0.out]; simp [*]; done)
            · cases a7 : (kd != 3)
              · (go_wp2_with fail; go_meet; refine ⟨?_, rfl⟩; rw [hB0.out]; simp [*]; done)
              · cases a8 : (nn != 0)
                · (go_wp2_with fail; go_meet; refine ⟨?_, rfl⟩; rw [hB0.out]; simp [*]; done)
                · (go_wp2_with fail; go_meet; refine ⟨?_, rfl⟩; rw [hB0.out]; simp [*]; done)
          · have a5' : decide (0 < pm) = true := by rw [← a5, decide_eq_decide]; omega
            (go_wp2_with fail; go_meet; refine ⟨?_, rfl⟩; rw [hB0.out]; simp [*]; done)
      · cases a3 : ((m : Int) != ar)
        · cases a4 : (kd != 13)
          · cases a6 : (kd != 1)
            · (go_wp2_with fail; go_meet; refine ⟨?_, rfl⟩; rw [hB0.out]; simp [*]; done)
            · cases a7 : (kd != 3)
              · (go_wp2_with fail; go_meet; refine ⟨?_, rfl⟩; rw [hB0.out]; simp [*]; done)
              · cases a8 : (nn != 0)
                · (go_wp2_with fail; go_meet; refine ⟨?_, rfl⟩; rw [hB0.out]; simp [*]; done)
                · (go_wp2_with fail; go_meet; refine ⟨?_, rfl⟩; rw [hB0.out]; simp [*]; done)
          · cases a5 : decide (0 < (pm : Int))
            · have a5' : decide (0 < pm) = false := by rw [← a5, decide_eq_decide]; omega
              cases a6 : (kd != 1)
              · (go_wp2_with fail; go_meet; refine ⟨?_, rfl⟩; rw [hB0.out]; simp [*]; done)
              · cases a7 : (kd != 3)
                · (go_wp2_with fail; go_meet; refine ⟨?_, rfl⟩; rw [hB0.out]; simp [*]; done)
                · cases a8 : (nn != 0)
                  · (go_wp2_with fail; go_meet; refine ⟨?_, rfl⟩; rw [hB0.out]; simp [*]; done)
                  · (go_wp2_with fail; go_meet; refine ⟨?_, rfl⟩; rw [hB0.out]; simp [*]; done)
            · have a5' : decide (0 < pm) = true := by rw [← a5, decide_eq_decide]; omega
              (go_wp2_with fail; go_meet; refine ⟨?_, rfl⟩; rw [hB0.out]; simp [*]; done)
        · (go_wp2_with fail; go_meet; refine ⟨?_, rfl⟩; rw [hB0.out]; simp [*]; done)
    · (go_wp2_with fail; go_meet; refine ⟨?_, rfl⟩; rw [hB0.out]; simp [*]; done)
  obtain ⟨rfl, rfl⟩ := hcut
  have hres := hres.out
  cases bad
  rotate_left
  · replace hres : res = false := hres
    subst hres
    go_wp2_with fail
    go_returns
    exact ⟨rfl, hw⟩
  replace hres : res = body := hres
  replace hres := Lib.hid hres
  rcases kind19 kd with rfl | rfl | rfl | rfl | rfl | rfl | rfl | rfl | rfl | rfl | rfl | rfl | rfl | rfl | rfl | rfl | rfl | rfl | rfl | hk
  · replace hBody : body = (decide (0 ≤ nn ∧ nn ≤ 4611686018427387903) && s.toList.isEmpty) := hBody.out
    have cW := fun W => within_c nn 0 4611686018427387903 W
    generalize decide (0 ≤ nn ∧ nn ≤ 4611686018427387903) = q at *
    subst hBody
    cases q
    all_goals go_wp2_with (go_at_call 75; ((with_reducible refine (cW _).mono ?_); rintro e w1 ⟨rfl, rfl⟩))
    all_goals go_returns
    all_goals exact ⟨by rw [hres.out]; rfl, hw⟩
  · replace hBody : body = true := hBody.out
    subst hBody
    go_wp2_with fail; go_returns; exact ⟨by rw [hres.out]; rfl, hw⟩
  · replace hBody : body = (nameOk s && nn == 0) := hBody.out
    rw [← hBody] at cN
    clear hBody
    go_wp2_with (refine (cN _).mono ?_; rintro e w1 ⟨rfl, hb⟩; have hw := hw.trans (hb.mono hw.size); have D := D.below hb; obtain ⟨d_0, d_1⟩ := D.box2; have hsD := World.block_lt_of_cell? _ _ d_0; dsimp only at hsD; have E := E.below hb; obtain ⟨e_0, e_1, e_2, e_3, e_4, e_5⟩ := E.box6; have hsE := World.block_lt_of_cell? _ _ e_0; dsimp only at hsE; clear hb)
    go_returns
    exact ⟨by rw [hres.out]; rfl, hw⟩
  · replace hBody : body = conShape s m ((m : Int) == 1 && fk == 11) := hBody.out
    by_cases hm1 : m = 1
    · subst hm1
      obtain ⟨j, b, o, b2, o2, y, rfl, rfl, c1, hj, c2, rfl⟩ := hfk.out (by omega)
      replace c1 := cell_below hw c1
      replace c2 := cell_below hw c2
      have hbb := World.block_lt_of_cell? _ _ c1; dsimp only at hbb
      have hbb2 := World.block_lt_of_cell? _ _ c2; dsimp only at hbb2
      have q1 : decide ((j : Int) < (n : Int)) = true := decide_eq_true (by omega)
      have cS1 := fun W => cS (fk == 11) W
      replace hBody : body = conShape s ((1 : Nat) : Int) (fk == 11) := hBody
      rw [← hBody] at cS1
      clear hfk cS hBody
      go_upto_region 20 with fail
      generalize he5 : (fk == 11) = e5 at *
      (refine wp_region_ext_lit (by kernel_rfl) (by kernel_rfl) ?_; (repeat (any_goals (first | go_big_quiet_step ((first | (go_at_call 109; exact Calls.ext_same (cS1 _)))) | quiet_step ((first | (go_at_call 109; exact Calls.ext_same (cS1 _)))) | (refine wpQuiet_step (fun K hK => ?_); go_simp; split <;> (refine hK _ ?_; clear hK K))))); all_goals (refine wpQuiet_nil ?_; rintro w1 ⟨⟨w2, hb⟩, rfl⟩; have hw := hw.trans (hb.mono hw.size); have D := D.below hb; obtain ⟨d_0, d_1⟩ := D.box2; have hsD := World.block_lt_of_cell? _ _ d_0; dsimp only at hsD; have E := E.below hb; obtain ⟨e_0, e_1, e_2, e_3, e_4, e_5⟩ := E.box6; have hsE := World.block_lt_of_cell? _ _ e_0; dsimp only at hsE; clear hb))
      all_goals go_wp2_with fail
      all_goals go_returns
      all_goals exact ⟨by rw [hres.out]; rfl, hw⟩
    · have e1 : ((m : Int) == 1) = false := by rw [beq_eq_false_iff_ne]; omega
      rw [e1] at hBody
      have cS1 := fun W => cS false W
      replace hBody : body = conShape s m false := hBody
      rw [← hBody] at cS1
      clear hfk cS hBody hm1
      go_upto_region 20 with fail
      (refine wp_region_ext_lit (by kernel_rfl) (by kernel_rfl) ?_; (repeat (any_goals (first | go_big_quiet_step ((first | (go_at_call 109; exact Calls.ext_same (cS1 _)))) | quiet_step ((first | (go_at_call 109; exact Calls.ext_same (cS1 _)))) | (refine wpQuiet_step (fun K hK => ?_); go_simp; split <;> (refine hK _ ?_; clear hK K))))); all_goals (refine wpQuiet_nil ?_; rintro w1 ⟨⟨w2, hb⟩, rfl⟩; have hw := hw.trans (hb.mono hw.size); have D := D.below hb; obtain ⟨d_0, d_1⟩ := D.box2; have hsD := World.block_lt_of_cell? _ _ d_0; dsimp only at hsD; have E := E.below hb; obtain ⟨e_0, e_1, e_2, e_3, e_4, e_5⟩ := E.box6; have hsE := World.block_lt_of_cell? _ _ e_0; dsimp only at hsE; clear hb))
      all_goals go_wp2_with fail
      all_goals go_returns
      all_goals exact ⟨by rw [hres.out]; rfl, hw⟩
  · replace hBody : body = (nameOk s && nn == 0) := hBody.out
    rw [← hBody] at cN
    clear hBody
    go_wp2_with (refine (cN _).mono ?_; rintro e w1 ⟨rfl, hb⟩; have hw := hw.trans (hb.mono hw.size); have D := D.below hb; obtain ⟨d_0, d_1⟩ := D.box2; have hsD := World.block_lt_of_cell? _ _ d_0; dsimp only at hsD; have E := E.below hb; obtain ⟨e_0, e_1, e_2, e_3, e_4, e_5⟩ := E.box6; have hsE := World.block_lt_of_cell? _ _ e_0; dsimp only at hsE; clear hb)
    go_returns
    exact ⟨by rw [hres.out]; rfl, hw⟩
  · replace hBody : body = s.toList.isEmpty := hBody.out
    subst hBody
    go_wp2_with fail; go_returns; exact ⟨by rw [hres.out]; rfl, hw⟩
  · replace hBody : body = (nameOk s && nn == 0) := hBody.out
    rw [← hBody] at cN
    clear hBody
    go_wp2_with (refine (cN _).mono ?_; rintro e w1 ⟨rfl, hb⟩; have hw := hw.trans (hb.mono hw.size); have D := D.below hb; obtain ⟨d_0, d_1⟩ := D.box2; have hsD := World.block_lt_of_cell? _ _ d_0; dsimp only at hsD; have E := E.below hb; obtain ⟨e_0, e_1, e_2, e_3, e_4, e_5⟩ := E.box6; have hsE := World.block_lt_of_cell? _ _ e_0; dsimp only at hsE; clear hb)
    go_returns
    exact ⟨by rw [hres.out]; rfl, hw⟩
  · replace hBody : body = ((nameOk s && nn == 0) && fk == 5) := hBody.out
    obtain ⟨_, har5⟩ := har5.out rfl
    subst har5
    generalize (nameOk s && nn == 0) = q at *
    have hm2 : m = 2 := by have h := hB0.out; simp at h; omega
    subst hm2
    obtain ⟨j, b, o, b2, o2, y, rfl, rfl, c1, hj, c2, rfl⟩ := hfk.out (by omega)
    replace c1 := cell_below hw c1
    replace c2 := cell_below hw c2
    have hbb := World.block_lt_of_cell? _ _ c1; dsimp only at hbb
    have hbb2 := World.block_lt_of_cell? _ _ c2; dsimp only at hbb2
    have q1 : decide ((j : Int) < (n : Int)) = true := decide_eq_true (by omega)
    subst hBody
    clear hfk
    go_upto_region 16 with fail
    cases q <;> cases e5 : (fk == 5)
    all_goals (refine wp_region_ext_lit (by kernel_rfl) (by kernel_rfl) ?_; (repeat (any_goals (first | go_big_quiet_step (fail) | quiet_step (fail) | (refine wpQuiet_step (fun K hK => ?_); go_simp; refine ⟨_, fun a => (Calls.ext (cN _)), ?_⟩; refine hK _ ?_; clear hK K) | (refine wpQuiet_step (fun K hK => ?_); go_simp; split <;> (refine hK _ ?_; clear hK K))))); all_goals (refine wpQuiet_nil ?_; rintro w1 ⟨⟨w2, hb⟩, rfl⟩; have hw := hw.trans (hb.mono hw.size); have D := D.below hb; obtain ⟨d_0, d_1⟩ := D.box2; have hsD := World.block_lt_of_cell? _ _ d_0; dsimp only at hsD; have E := E.below hb; obtain ⟨e_0, e_1, e_2, e_3, e_4, e_5⟩ := E.box6; have hsE := World.block_lt_of_cell? _ _ e_0; dsimp only at hsE; clear hb))
    all_goals go_wp2_with fail
    all_goals go_returns
    all_goals exact ⟨by rw [hres.out, e5]; rfl, hw⟩
  · replace hBody : body = s.toList.isEmpty := hBody.out
    subst hBody
    go_wp2_with fail; go_returns; exact ⟨by rw [hres.out]; rfl, hw⟩
  · replace hBody : body = primOk s := hBody.out
    have cp := fun g W h => containsS_c primB s 0 (.slice (some ⟨g, 0, none⟩) 10 10) W h
    replace cp : ∀ g W, _ → Calls Tryz.prog 50 #[.slice (some ⟨g, 0, none⟩) 10 10, .string s] W fun e w' => e = .returned (.bool (primOk s)) ∧ Below W.heap.size W w' := cp
    rw [← hBody] at cp
    replace cp := Lib.hid cp
    clear hBody
    go_upto_region 18 with fail
    go_region_law ((first | (go_simp; go_at_call 108; ((with_reducible refine (primOps_c _).mono ?_); rintro e w1 ⟨g, rfl, hS, hb⟩; have hw1 := hw.trans (Below.trans (by go_grown) (hb.mono (by go_grown)) : Below w.heap.size wc w1); have e_3' : w1.cell? ⟨w.heap.size + 1, 3, none⟩ = some (.string s) := cell_below hb e_3)) | (go_simp; go_at_call 50; ((with_reducible refine (cp.out _ _ hS).mono ?_); rintro e w3 ⟨rfl, hb3⟩))))
    all_goals go_wp2_with fail
    all_goals go_returns
    all_goals exact ⟨by rw [hres.out]; rfl, hw1.trans (hb3.mono hw1.size)⟩
  · replace hBody : body = s.toList.isEmpty := hBody.out
    subst hBody
    go_wp2_with fail; go_returns; exact ⟨by rw [hres.out]; rfl, hw⟩
  · replace hBody : body = s.toList.isEmpty := hBody.out
    subst hBody
    go_wp2_with fail; go_returns; exact ⟨by rw [hres.out]; rfl, hw⟩
  · replace hBody : body = (s.toList.isEmpty && (decide (1 ≤ (pm : Int)) && (m : Int) == (pm : Int) + 1)) := hBody.out
    have hww : IntKind.i64.wrap ((pm : Int) + 1) = (pm : Int) + 1 := IntWalk.i64_in _ (by omega)
    cases e1 : s.toList.isEmpty <;> cases e2 : decide (1 ≤ (pm : Int)) <;> cases e3 : ((m : Int) == (pm : Int) + 1)
    all_goals have e2' : decide (1 ≤ pm) = decide (1 ≤ (pm : Int)) := by rw [decide_eq_decide]; omega
    all_goals rw [e2] at e2'
    all_goals rw [e1, e2, e3] at hBody
    all_goals clear har5 har hfk
    all_goals subst hBody
    all_goals go_wp2_with fail
    all_goals go_returns
    all_goals exact ⟨by rw [hres.out]; rfl, hw⟩
  · replace hBody : body = s.toList.isEmpty := hBody.out
    subst hBody
    go_wp2_with fail; go_returns; exact ⟨by rw [hres.out]; rfl, hw⟩
  · replace hBody : body = (nameOk s && nn == 0) := hBody.out
    rw [← hBody] at cN
    clear hBody
    go_wp2_with (refine (cN _).mono ?_; rintro e w1 ⟨rfl, hb⟩; have hw := hw.trans (hb.mono hw.size); have D := D.below hb; obtain ⟨d_0, d_1⟩ := D.box2; have hsD := World.block_lt_of_cell? _ _ d_0; dsimp only at hsD; have E := E.below hb; obtain ⟨e_0, e_1, e_2, e_3, e_4, e_5⟩ := E.box6; have hsE := World.block_lt_of_cell? _ _ e_0; dsimp only at hsE; clear hb)
    go_returns
    exact ⟨by rw [hres.out]; rfl, hw⟩
  · replace hBody : body = s.toList.isEmpty := hBody.out
    subst hBody
    go_wp2_with fail; go_returns; exact ⟨by rw [hres.out]; rfl, hw⟩
  · replace hBody : body = s.toList.isEmpty := hBody.out
    subst hBody
    go_wp2_with fail; go_returns; exact ⟨by rw [hres.out]; rfl, hw⟩
  · replace hBody : body = s.toList.isEmpty := hBody.out
    subst hBody
    go_wp2_with fail; go_returns; exact ⟨by rw [hres.out]; rfl, hw⟩
  · replace hBody : body = s.toList.isEmpty := hBody.out
    subst hBody
    go_wp2_with fail; go_returns; exact ⟨by rw [hres.out]; rfl, hw⟩
  · have hj := kindOut hk
    replace hBody : body = false := by
      rw [hBody.out, if_neg (by omega), if_neg (by omega), if_neg (by omega), if_neg (by omega), if_neg (by omega), if_neg (by omega), if_neg (by omega), if_neg (by omega)]
    subst hBody
    have n1 := hj 1 (by omega) (by omega); have n2 := hj 2 (by omega) (by omega); have n3 := hj 3 (by omega) (by omega); have n4 := hj 4 (by omega) (by omega); have n5 := hj 5 (by omega) (by omega); have n6 := hj 6 (by omega) (by omega); have n7 := hj 7 (by omega) (by omega); have n8 := hj 8 (by omega) (by omega); have n9 := hj 9 (by omega) (by omega); have n10 := hj 10 (by omega) (by omega); have n11 := hj 11 (by omega) (by omega); have n12 := hj 12 (by omega) (by omega); have n13 := hj 13 (by omega) (by omega); have n14 := hj 14 (by omega) (by omega); have n15 := hj 15 (by omega) (by omega); have n16 := hj 16 (by omega) (by omega); have n17 := hj 17 (by omega) (by omega); have n18 := hj 18 (by omega) (by omega); have n19 := hj 19 (by omega) (by omega)
    clear hj hk
    go_wp2_with fail; go_returns; exact ⟨by rw [hres.out]; rfl, hw⟩
end Go.Proofs.YtaimekaagmcmnaaGreat

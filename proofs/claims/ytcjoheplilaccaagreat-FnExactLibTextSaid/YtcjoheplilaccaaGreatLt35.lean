/- Parts of the proof, merged: TypeOk, TypeOk2, FindType, FindPat. -/
import Derived.Test.YtcjoheplilaccaaGreatLt34
/- Type declarations: the program's test. -/
namespace Go.Proofs.YtcjoheplilaccaaGreat
open Go.RowKit
set_option linter.unusedVariables false
set_option linter.unusedSimpArgs false
attribute [local go_sem] Ext.cell

def varIn (p : Int) (x : GTyItem) : Bool := !(x.name.toList.isEmpty && decide (p ≤ x.var))
def conHas (c : GCon) : Bool := if c.has then tyOk c.arg else c.arg.items.length == 0
def conDecl (p : Int) (c : GCon) : Bool := conOk c.name && (conHas c && c.arg.items.all (varIn p))
def typeOk (t : GType) : Bool := nameOk t.name && (decide (0 ≤ t.params ∧ t.params ≤ 2) && (decide (1 ≤ (t.cons.length : Int) ∧ (t.cons.length : Int) ≤ 8) && t.cons.all (conDecl t.params)))
def typeSm (t : GType) : Prop := t.cons.length ≤ 1152921504606846976 ∧ ∀ c ∈ t.cons, c.arg.items.length ≤ 1152921504606846976
theorem all_bad {α : Type} {l : List α} {f : α → Bool} {k : Nat} {x : α} (h : l[k]? = some x) (hf : f x = false) : l.all f = false :=
  List.all_eq_false.2 ⟨x, List.mem_of_getElem? h, by rw [hf]; decide⟩
theorem all_stepL {α : Type} {l : List α} {f : α → Bool} {k : Nat} {x : α} (h : ∀ y ∈ l.take k, f y = true) (hx : l[k]? = some x) (hf : f x = true) : ∀ y ∈ l.take (k + 1), f y = true := by
  rw [take_snoc' hx]
  intro z hz
  rcases List.mem_append.1 hz with h' | h'
  · exact h z h'
  · simp at h'; subst h'; exact hf
theorem all_full {α : Type} {l : List α} {f : α → Bool} {k : Nat} (h : ∀ y ∈ l.take k, f y = true) (hk : k = l.length) : l.all f = true :=
  List.all_eq_true.2 fun y hy => h y (by rw [List.take_of_length_le (by omega)]; exact hy)

set_option maxRecDepth 100000 in
set_option maxHeartbeats 16000000 in
theorem typeOk_c (t : GType) (hl : typeSm t) (r : List Value) (lo : Nat) (w : World) (hr : GType.R lo w r t) :
    Calls Tryz.prog 110 #[.agg r.toArray] w fun e w' => e = .returned (.bool (typeOk t)) ∧ Below w.heap.size w w' := by
  obtain ⟨nm, pp, cs⟩ := t
  obtain ⟨u0, rfl, hwf, a0⟩ := hr
  obtain ⟨hl1, hl2⟩ := hl
  obtain ⟨a, c, rfl, ul, um, h0⟩ := a0
  dsimp only at *
  have hT : typeOk ⟨nm, pp, cs⟩ = (nameOk nm && (decide (0 ≤ pp ∧ pp ≤ 2) && (decide (1 ≤ (cs.length : Int) ∧ (cs.length : Int) ≤ 8) && cs.all (conDecl pp)))) := rfl
  generalize typeOk ⟨nm, pp, cs⟩ = res at *
  have cN := fun W => impl_NameOk_c nm hwf.1 W
  have W1 := fun W => within_c pp 0 2 W
  have W2 := fun W => within_c cs.length 1 8 W
  obtain ⟨n, hn⟩ : ∃ n, n = cs.length := ⟨_, rfl⟩
  rw [← hn] at ul hl1 hT W2 ⊢
  replace hn := Lib.hid hn; replace h0 := Lib.hid h0; replace hl2 := Lib.hid hl2
  show Calls Tryz.prog 110 #[.agg #[.string nm, .int .i64 pp, .slice a n c]] w _
  generalize hq1 : nameOk nm = q1 at *
  generalize hq2 : decide (0 ≤ pp ∧ pp ≤ 2) = q2 at *
  generalize hq3 : decide (1 ≤ (n : Int) ∧ (n : Int) ≤ 8) = q3 at *
  clear hq1 hq2 hwf
  by_cases hbad : (q1 && (q2 && q3)) = false
  · have hres : res = false := by rw [hT]; cases q1 <;> cases q2 <;> cases q3 <;> first | rfl | (exact absurd hbad (by decide))
    subst hres
    clear hT hq3 h0
    cases q1 <;> cases q2 <;> cases q3
    all_goals first
      | (exact absurd hbad (by decide))
      | (clear hbad
         go_enter Tryz.func110, Tryz.ntmps110
         go_upto_region 1 with fail
         have D : RowAt (w.alloc (.cells #[.string nm, .int .i64 pp, .slice a n c] 81)) (w.heap.size) 0 [.string nm, .int .i64 pp, .slice a n c] := RowAt.box w #[.string nm, .int .i64 pp, .slice a n c] 81
         have hw : Below w.heap.size w (w.alloc (.cells #[.string nm, .int .i64 pp, .slice a n c] 81)) := by go_grown
         generalize (w.alloc (.cells #[.string nm, .int .i64 pp, .slice a n c] 81)) = w0 at *
         obtain ⟨d_0, d_1, d_2⟩ := D.box3; have hsD := World.block_lt_of_cell? _ _ d_0; dsimp only at hsD
         go_wp2_with (first | (go_at_call 71; ((with_reducible refine (cN _).mono ?_); rintro e w1 ⟨rfl, hb⟩; have hw := hw.trans (hb.mono hw.size); have D := D.below hb; obtain ⟨d_0, d_1, d_2⟩ := D.box3; have hsD := World.block_lt_of_cell? _ _ d_0; dsimp only at hsD; clear hb)) | (go_at_call 59; ((with_reducible refine (W1 _).mono ?_); rintro e w1 ⟨rfl, rfl⟩)) | (go_at_call 59; ((with_reducible refine (W2 _).mono ?_); rintro e w1 ⟨rfl, rfl⟩)))
         go_returns
         exact ⟨rfl, hw⟩)
  have hq : q1 = true ∧ q2 = true ∧ q3 = true := by cases q1 <;> cases q2 <;> cases q3 <;> first | exact ⟨rfl, rfl, rfl⟩ | exact absurd rfl hbad
  clear hbad
  obtain ⟨rfl, rfl, rfl⟩ := hq
  simp only [Bool.true_and] at hT
  replace hT := Lib.hid hT
  have hn18 := of_decide_eq_true hq3
  clear hq3
  go_enter Tryz.func110, Tryz.ntmps110
  go_upto_region 1 with fail
  have D : RowAt (w.alloc (.cells #[.string nm, .int .i64 pp, .slice a n c] 81)) (w.heap.size) 0 [.string nm, .int .i64 pp, .slice a n c] := RowAt.box w #[.string nm, .int .i64 pp, .slice a n c] 81
  have hw : Below w.heap.size w (w.alloc (.cells #[.string nm, .int .i64 pp, .slice a n c] 81)) := by go_grown
  generalize (w.alloc (.cells #[.string nm, .int .i64 pp, .slice a n c] 81)) = w0 at *
  obtain ⟨d_0, d_1, d_2⟩ := D.box3; have hsD := World.block_lt_of_cell? _ _ d_0; dsimp only at hsD
  go_wp2_with (first | (go_at_call 71; ((with_reducible refine (cN _).mono ?_); rintro e w1 ⟨rfl, hb⟩; have hw := hw.trans (hb.mono hw.size); have D := D.below hb; obtain ⟨d_0, d_1, d_2⟩ := D.box3; have hsD := World.block_lt_of_cell? _ _ d_0; dsimp only at hsD; clear hb)) | (go_at_call 59; ((with_reducible refine (W1 _).mono ?_); rintro e w1 ⟨rfl, rfl⟩)) | (go_at_call 59; ((with_reducible refine (W2 _).mono ?_); rintro e w1 ⟨rfl, rfl⟩)))
  go_loopw [27] (fun ii wr => ∃ k : Nat, k ≤ n ∧ ii = .int .i64 k ∧ Hid (∀ y ∈ cs.take k, conDecl pp y = true) ∧ Below w.heap.size w wr ∧ RowAt wr w.heap.size 0 [.string nm, .int .i64 pp, .slice a n c]) (fun ii _ => n - (intOf ii).toNat)
  case atStart => exact ⟨0, by omega, rfl, fun y hy => by simp at hy, hw, D⟩
  case round =>
    clear D d_0 d_1 d_2 hsD hw
    obtain ⟨k, hk, rfl, hF, hw, D⟩ := hrel
    have hsz := hw.size
    obtain ⟨d_0, d_1, d_2⟩ := D.box3; have hsD := World.block_lt_of_cell? _ _ d_0; dsimp only at hsD
    by_cases hlt : k < n
    · obtain ⟨b1, o1, x, s1, _, rfl, P1, hx, r1⟩ := (h0.out.below GCon.good hw).get hn.out hlt
      have hsm := hl2.out x (List.mem_of_getElem? P1.out)
      have P1' := P1.out
      obtain ⟨cn, hb, ⟨its⟩⟩ := x
      obtain ⟨v0, rfl, hwf, a1⟩ := hx
      have H1 := a1
      obtain ⟨ia, ic, rfl, il, im, j0⟩ := a1
      dsimp only at *
      have hbadc : conDecl pp ⟨cn, hb, ⟨its⟩⟩ = false → res = false := fun h => by rw [hT.out]; exact all_bad P1' h
      have hgood := fun h => all_stepL (f := conDecl pp) hF.out P1' h
      have hC : conDecl pp ⟨cn, hb, ⟨its⟩⟩ = (conOk cn && ((if hb then tyOk ⟨its⟩ else its.length == 0) && its.all (varIn pp))) := rfl
      obtain ⟨m, hm⟩ : ∃ m, m = its.length := ⟨_, rfl⟩
      rw [← hm] at il hC r1 H1
      have cC := fun W => ConOk_c cn hwf W
      have cT := fun W lo' h => TyOk_c ⟨its⟩ hsm [.slice ia m ic] lo' W h
      generalize conDecl pp ⟨cn, hb, ⟨its⟩⟩ = cd at *
      generalize hq1 : conOk cn = q1 at *
      generalize hq2 : tyOk ⟨its⟩ = q2 at *
      obtain ⟨e_0, e_1, e_2⟩ := r1.cells3
      have hbb1 := World.block_lt_of_cell? _ _ e_0; dsimp only at hbb1
      have hsm' : m ≤ 1152921504606846976 := by rw [hm]; exact hsm
      clear P1 P1' hF r1 hq1 hq2 hsm
      replace hbadc := Lib.hid hbadc; replace hgood := Lib.hid hgood; replace hm := Lib.hid hm; replace H1 := Lib.hid H1; replace j0 := Lib.hid j0; replace cT := Lib.hid cT
      go_upto_region 6 with fail
      have hb1' : Below wr.heap.size wr (wr.alloc (.cells #[.string cn, .bool hb, .slice ia m ic] 88)) := by go_grown
      have E : RowAt (wr.alloc (.cells #[.string cn, .bool hb, .slice ia m ic] 88)) wr.heap.size 0 [.string cn, .bool hb, .slice ia m ic] := RowAt.box _ _ _
      have hw' := hw.trans (hb1'.mono hsz)
      have D' := D.below hb1'
      have j0' := j0.out.below GTyItem.good hb1'
      have H1' : GTy.R lo (wr.alloc (.cells #[.string cn, .bool hb, .slice ia m ic] 88)) [.slice ia m ic] ⟨its⟩ := ⟨_, rfl, trivial, H1.out.below GTyItem.good hb1'⟩
      generalize hbE : wr.heap.size = bE at *
      generalize wr.alloc (.cells #[.string cn, .bool hb, .slice ia m ic] 88) = w0 at *
      clear hw hb1' e_0 e_1 e_2 D d_0 d_1 d_2 H1 j0 hbE
      have hw := hw'; clear hw'
      have D := D'; clear D'
      replace j0' := Lib.hid j0'; replace H1' := Lib.hid H1'
      have hw0 := hw
      have hw00 := Below.refl w0.heap.size w0
      obtain ⟨d_0, d_1, d_2⟩ := D.box3; have hsD := World.block_lt_of_cell? _ _ d_0; dsimp only at hsD; obtain ⟨e_0, e_1, e_2⟩ := E.box3; have hsE := World.block_lt_of_cell? _ _ e_0; dsimp only at hsE
      have cT0 := cT.out w0 lo H1'.out
      clear cT
      replace cT0 := Lib.hid cT0
      generalize hem : ((m : Int) == 0) = em
      have hdm : decide (0 < (m : Int)) = !em := by cases em <;> simp_all <;> omega
      have hdm' : decide (0 < m) = !em := by rw [← hdm, decide_eq_decide]; omega
      have heml : (m == 0) = em := by rw [← hem, Bool.eq_iff_iff]; simp
      rw [heml] at hC
      by_cases hcd : (q1 && (if hb then q2 else em)) = false
      · have hc0 : cd = false := by rw [hC, ← Bool.and_assoc, hcd]; rfl
        have hres := hbadc.out hc0
        subst hres
        clear hC hc0 hbadc hgood hem heml
        cases q1 <;> cases hb <;> cases q2 <;> cases em
        all_goals first
          | (exact absurd hcd (by decide))
          | (clear hcd
             go_wp2_with (first | (go_at_call 72; ((with_reducible refine (cC _).mono ?_); rintro e w1 ⟨rfl, rfl⟩)) | (go_at_call 125; ((with_reducible refine (cT0.out).mono ?_); rintro e w1 ⟨rfl, hb⟩; have hw := hw.trans (hb.mono hw.size); have D := D.below hb; obtain ⟨d_0, d_1, d_2⟩ := D.box3; have hsD := World.block_lt_of_cell? _ _ d_0; dsimp only at hsD; have E := E.below hb; obtain ⟨e_0, e_1, e_2⟩ := E.box3; have hsE := World.block_lt_of_cell? _ _ e_0; dsimp only at hsE; clear hb)))
             go_returns
             exact ⟨rfl, hw⟩)
      · have hq : q1 = true ∧ (if hb then q2 else em) = true := by
          cases h1 : q1 <;> cases h2 : (if hb then q2 else em) <;> rw [h1, h2] at hcd <;> first | exact ⟨rfl, rfl⟩ | exact absurd rfl hcd
        obtain ⟨rfl, hq2⟩ := hq
        rw [hq2] at hC
        simp only [Bool.true_and] at hC
        replace hC := Lib.hid hC
        clear hcd hem heml
        have hway : (hb = true ∧ q2 = true) ∨ (hb = false ∧ em = true) := by
          cases hb
          · exact .inr ⟨rfl, hq2⟩
          · exact .inl ⟨rfl, hq2⟩
        clear hq2
        have hbi : ∀ W, Below w0.heap.size w0 W → SlAt GTyItem.R 3 lo W ia its := fun W hW => j0'.out.below GTyItem.good hW
        replace hbi := Lib.hid hbi
        rcases hway with ⟨rfl, rfl⟩ | ⟨rfl, rfl⟩
        all_goals
          go_wp2_with (first | (go_at_call 72; ((with_reducible refine (cC _).mono ?_); rintro e w1 ⟨rfl, rfl⟩)) | (go_at_call 125; (with_reducible refine (cT0.out).mono ?_); rintro e w1 ⟨rfl, hb⟩; have hw00 := hw00.trans (hb.mono hw00.size); have hw := hw.trans (hb.mono hw.size); have D := D.below hb; obtain ⟨d_0, d_1, d_2⟩ := D.box3; have hsD := World.block_lt_of_cell? _ _ d_0; dsimp only at hsD; have E := E.below hb; obtain ⟨e_0, e_1, e_2⟩ := E.box3; have hsE := World.block_lt_of_cell? _ _ e_0; dsimp only at hsE; clear hb))
          go_loopw [61] (fun ii wr => ∃ j : Nat, j ≤ m ∧ ii = .int .i64 j ∧ Hid (∀ y ∈ its.take j, varIn pp y = true) ∧ Below w.heap.size w wr ∧ Below w0.heap.size w0 wr ∧ RowAt wr w.heap.size 0 [.string nm, .int .i64 pp, .slice (some ⟨b1, o1, none⟩) n c]) (fun ii _ => m - (intOf ii).toNat)
          case atStart => exact ⟨0, by omega, rfl, fun y hy => by simp at hy, hw, hw00, D⟩
          case round =>
            clear D d_0 d_1 d_2 hsD hw hw00 E e_0 e_1 e_2 hsE
            obtain ⟨j, hj, rfl, hF, hw, hw00, D⟩ := hrel
            have hsz' := hw.size
            have hsz0 := hw00.size
            obtain ⟨d_0, d_1, d_2⟩ := D.box3; have hsD := World.block_lt_of_cell? _ _ d_0; dsimp only at hsD
            by_cases hjm : j < m
            · obtain ⟨b2, o2, y, s2, _, rfl, P2, ⟨rfl, hwy⟩, r2⟩ := (hbi.out _ hw00).get hm.out hjm
              have P2' := P2.out
              have hbadv : varIn pp y = false → res = false := fun h => hbadc.out (by rw [hC.out]; exact all_bad P2' h)
              have hgoodv := fun h => all_stepL (f := varIn pp) hF.out P2' h
              obtain ⟨f_0, f_1, f_2⟩ := r2.cells3
              have hbb2 := World.block_lt_of_cell? _ _ f_0; dsimp only at hbb2
              obtain ⟨xv, xs, xa⟩ := y
              have hV : varIn pp ⟨xv, xs, xa⟩ = !(xs.toList.isEmpty && decide (pp ≤ xv)) := rfl
              dsimp only at *
              generalize varIn pp ⟨xv, xs, xa⟩ = q at *
              clear r2 P2 P2' hF hwy
              replace hbadv := Lib.hid hbadv; replace hgoodv := Lib.hid hgoodv
              cases e1 : xs.toList.isEmpty
              · rw [e1] at hV
                replace hV : q = true := hV
                subst hV
                have hF := Lib.hid (hgoodv.out rfl)
                clear hbadv hgoodv
                go_wp2_with fail
                go_roundw
                case rel => exact ⟨j + 1, by omega, by go_num, hF, hw.trans (Below.mono (by go_grown) hsz'), hw00.trans (Below.mono (by go_grown) hsz0), D.below (by go_grown)⟩
                case measure => simp [intOf]; omega
              · cases e2 : decide (pp ≤ xv)
                · rw [e1, e2] at hV
                  replace hV : q = true := hV
                  subst hV
                  have hF := Lib.hid (hgoodv.out rfl)
                  clear hbadv hgoodv
                  go_wp2_with fail
                  go_roundw
                  case rel => exact ⟨j + 1, by omega, by go_num, hF, hw.trans (Below.mono (by go_grown) hsz'), hw00.trans (Below.mono (by go_grown) hsz0), D.below (by go_grown)⟩
                  case measure => simp [intOf]; omega
                · rw [e1, e2] at hV
                  replace hV : q = false := hV
                  subst hV
                  have hres := hbadv.out rfl
                  subst hres
                  clear hbadv hgoodv
                  go_wp2_with fail
                  go_returns
                  exact ⟨rfl, hw.trans (Below.mono (by go_grown) hsz')⟩
            · obtain rfl : j = m := by omega
              have hc1 := hC.out
              rw [all_full hF.out hm.out] at hc1
              have hF := Lib.hid (hgood.out hc1)
              clear hC hc1
              go_wp2_with fail
              go_roundw
              case rel => exact ⟨k + 1, by omega, by go_num, hF, hw, D⟩
              case measure => simp [intOf]; omega
    · obtain rfl : k = n := by omega
      have hres : res = true := by rw [hT.out]; exact all_full hF.out hn.out
      subst hres
      clear hF
      go_wp2_with fail
      go_returns
      exact ⟨rfl, hw⟩
end Go.Proofs.YtcjoheplilaccaaGreat

/- Type declarations: the reference's test of a constructor. -/
namespace Go.Proofs.YtcjoheplilaccaaGreat
open Go.RowKit
set_option linter.unusedVariables false
set_option linter.unusedSimpArgs false
attribute [local go_sem] Ext.cell

end Go.Proofs.YtcjoheplilaccaaGreat

/- slices.ContainsFunc over []impl.Type, with a closure that answers for each element and may make memory. -/
namespace Go.Proofs.YtcjoheplilaccaaGreat
open Go.RowKit
set_option linter.unusedVariables false
set_option linter.unusedSimpArgs false
attribute [local go_sem] Ext.cell

set_option maxRecDepth 100000 in
set_option maxHeartbeats 4000000 in
theorem indexFuncType_c (xs : List GType) (p : GType → Bool) (g : Nat) (lb : Array Value) (lo : Nat) (u : Value) (w : World) (hu : Sl GType.R 3 lo w u xs)
    (hp : ∀ (i : Nat) x r W, xs[i]? = some x → Below w.heap.size w W → GType.R lo W r x → Calls Tryz.prog g (#[.agg r.toArray] ++ lb) W fun e w' => e = .returned (.bool (p x)) ∧ Below W.heap.size W w') (eg : ∀ args w, (callFunc g args).run Tryz.prog w = .ok (.enter g args) w) :
    Calls Tryz.prog 124 #[u, .func (.func g) #[] lb] w (IdxPost p xs w) := by
  obtain ⟨ua, uc, rfl, ul, um, h0⟩ := hu
  replace hp := Lib.hid hp
  replace h0 := Lib.hid h0
  obtain ⟨m, hm⟩ : ∃ m, m = xs.length := ⟨_, rfl⟩
  rw [← hm] at ul ⊢
  replace hm := Lib.hid hm
  go_enter Tryz.func124, Tryz.ntmps124
  go_wp2_with fail
  go_loopw [8] (fun i wr => ∃ k : Nat, k ≤ m ∧ i = .int .i64 k ∧ Below w.heap.size w wr ∧ Hid (∀ y ∈ xs.take k, p y = false)) (fun i _ => m - (intOf i).toNat)
  case atStart => exact ⟨0, by omega, rfl, Below.refl _ _, fun y hy => by simp at hy⟩
  case round =>
    obtain ⟨k, hk, rfl, hw, hF⟩ := hrel
    by_cases hlt : k < m
    · obtain ⟨b1, o1, x, r, _, rfl, P1, hx, r1⟩ := (h0.out.below GType.good hw).get hm hlt
      have hc := hp.out k x r wr P1.out hw hx
      obtain ⟨u0, rfl, hxf⟩ := id hx
      obtain ⟨e_0, e_1, e_2⟩ := r1.cells3
      clear r1 hx hxf
      replace P1 := P1
      generalize hq : p x = q at hc
      replace hq := Lib.hid hq
      cases q with
      | true =>
        go_wp2_with (go_at_fn g; refine hc.mono ?_; rintro e w1 ⟨rfl, hb⟩)
        go_returns
        exact ⟨k, rfl, by
          have : xs.any p = true := List.any_eq_true.2 ⟨x, List.mem_of_getElem? P1.out, hq.out⟩
          rw [this]; simp, hw.trans (hb.mono hw.size)⟩
      | false =>
        go_wp2_with (go_at_fn g; refine hc.mono ?_; rintro e w1 ⟨rfl, hb⟩)
        go_roundw
        case rel => exact ⟨k + 1, by omega, by go_num, hw.trans (hb.mono hw.size), by
          show ∀ y ∈ xs.take (k + 1), p y = false
          rw [take_snoc' P1.out]
          intro y hy
          rcases List.mem_append.1 hy with h | h
          · exact hF.out y h
          · simp at h; subst h; exact hq.out⟩
        case measure => simp [intOf]; omega
    · obtain rfl : k = m := by omega
      go_wp2_with fail
      go_returns
      exact ⟨-1, rfl, by
        have hF := hF.out
        rw [take_full hm] at hF
        have : xs.any p = false := List.any_eq_false.2 fun y hy => by rw [hF y hy]; simp
        rw [this]; simp, hw⟩

theorem containsFuncType_c (xs : List GType) (p : GType → Bool) (g : Nat) (lb : Array Value) (lo : Nat) (u : Value) (w : World) (hu : Sl GType.R 3 lo w u xs)
    (hp : ∀ (i : Nat) x r W, xs[i]? = some x → Below w.heap.size w W → GType.R lo W r x → Calls Tryz.prog g (#[.agg r.toArray] ++ lb) W fun e w' => e = .returned (.bool (p x)) ∧ Below W.heap.size W w') (eg : ∀ args w, (callFunc g args).run Tryz.prog w = .ok (.enter g args) w) :
    Calls Tryz.prog 108 #[u, .func (.func g) #[] lb] w fun e w' => e = .returned (.bool (xs.any p)) ∧ Below w.heap.size w w' := by
  have hc := indexFuncType_c xs p g lb lo u w hu hp eg
  replace hc : Calls Tryz.prog 124 #[u, .func (.func g) #[] lb] w fun e w' => ∃ n : Int, e = .returned (.int .i64 n) ∧ decide (0 ≤ n) = xs.any p ∧ Below w.heap.size w w' := hc
  clear hp
  generalize xs.any p = q at *
  obtain ⟨ua, uc, rfl⟩ := hu.form
  clear hu
  go_enter Tryz.func108, Tryz.ntmps108
  go_wp2_with (go_at_call 124; refine hc.mono ?_; rintro e w1 ⟨n, rfl, hn, hb⟩)
  go_returns
  exact ⟨rfl, hb⟩

end Go.Proofs.YtcjoheplilaccaaGreat

/- slices.ContainsFunc over []impl.Pat, with a closure that answers for each element and may make memory. -/
namespace Go.Proofs.YtcjoheplilaccaaGreat
open Go.RowKit
set_option linter.unusedVariables false
set_option linter.unusedSimpArgs false
attribute [local go_sem] Ext.cell

set_option maxRecDepth 100000 in
set_option maxHeartbeats 4000000 in
theorem indexFuncPat_c (xs : List GPat) (p : GPat → Bool) (g : Nat) (lb : Array Value) (lo : Nat) (u : Value) (w : World) (hu : Sl GPat.R 1 lo w u xs)
    (hp : ∀ (i : Nat) x r W, xs[i]? = some x → Below w.heap.size w W → GPat.R lo W r x → Calls Tryz.prog g (#[.agg r.toArray] ++ lb) W fun e w' => e = .returned (.bool (p x)) ∧ Below W.heap.size W w') (eg : ∀ args w, (callFunc g args).run Tryz.prog w = .ok (.enter g args) w) :
    Calls Tryz.prog 111 #[u, .func (.func g) #[] lb] w (IdxPost p xs w) := by
  obtain ⟨ua, uc, rfl, ul, um, h0⟩ := hu
  replace hp := Lib.hid hp
  replace h0 := Lib.hid h0
  obtain ⟨m, hm⟩ : ∃ m, m = xs.length := ⟨_, rfl⟩
  rw [← hm] at ul ⊢
  replace hm := Lib.hid hm
  go_enter Tryz.func111, Tryz.ntmps111
  go_wp2_with fail
  go_loopw [8] (fun i wr => ∃ k : Nat, k ≤ m ∧ i = .int .i64 k ∧ Below w.heap.size w wr ∧ Hid (∀ y ∈ xs.take k, p y = false)) (fun i _ => m - (intOf i).toNat)
  case atStart => exact ⟨0, by omega, rfl, Below.refl _ _, fun y hy => by simp at hy⟩
  case round =>
    obtain ⟨k, hk, rfl, hw, hF⟩ := hrel
    by_cases hlt : k < m
    · obtain ⟨b1, o1, x, r, _, rfl, P1, hx, r1⟩ := (h0.out.below GPat.good hw).get hm hlt
      have hc := hp.out k x r wr P1.out hw hx
      obtain ⟨u0, rfl, hxf⟩ := id hx
      have e_0 : wr.cell? ⟨b1, o1 + k, none⟩ = some u0 := by simpa using r1 0 _ rfl
      clear r1 hx hxf
      replace P1 := P1
      generalize hq : p x = q at hc
      replace hq := Lib.hid hq
      cases q with
      | true =>
        go_wp2_with (go_at_fn g; refine hc.mono ?_; rintro e w1 ⟨rfl, hb⟩)
        go_returns
        exact ⟨k, rfl, by
          have : xs.any p = true := List.any_eq_true.2 ⟨x, List.mem_of_getElem? P1.out, hq.out⟩
          rw [this]; simp, hw.trans (hb.mono hw.size)⟩
      | false =>
        go_wp2_with (go_at_fn g; refine hc.mono ?_; rintro e w1 ⟨rfl, hb⟩)
        go_roundw
        case rel => exact ⟨k + 1, by omega, by go_num, hw.trans (hb.mono hw.size), by
          show ∀ y ∈ xs.take (k + 1), p y = false
          rw [take_snoc' P1.out]
          intro y hy
          rcases List.mem_append.1 hy with h | h
          · exact hF.out y h
          · simp at h; subst h; exact hq.out⟩
        case measure => simp [intOf]; omega
    · obtain rfl : k = m := by omega
      go_wp2_with fail
      go_returns
      exact ⟨-1, rfl, by
        have hF := hF.out
        rw [take_full hm] at hF
        have : xs.any p = false := List.any_eq_false.2 fun y hy => by rw [hF y hy]; simp
        rw [this]; simp, hw⟩

theorem containsFuncPat_c (xs : List GPat) (p : GPat → Bool) (g : Nat) (lb : Array Value) (lo : Nat) (u : Value) (w : World) (hu : Sl GPat.R 1 lo w u xs)
    (hp : ∀ (i : Nat) x r W, xs[i]? = some x → Below w.heap.size w W → GPat.R lo W r x → Calls Tryz.prog g (#[.agg r.toArray] ++ lb) W fun e w' => e = .returned (.bool (p x)) ∧ Below W.heap.size W w') (eg : ∀ args w, (callFunc g args).run Tryz.prog w = .ok (.enter g args) w) :
    Calls Tryz.prog 87 #[u, .func (.func g) #[] lb] w fun e w' => e = .returned (.bool (xs.any p)) ∧ Below w.heap.size w w' := by
  have hc := indexFuncPat_c xs p g lb lo u w hu hp eg
  replace hc : Calls Tryz.prog 111 #[u, .func (.func g) #[] lb] w fun e w' => ∃ n : Int, e = .returned (.int .i64 n) ∧ decide (0 ≤ n) = xs.any p ∧ Below w.heap.size w w' := hc
  clear hp
  generalize xs.any p = q at *
  obtain ⟨ua, uc, rfl⟩ := hu.form
  clear hu
  go_enter Tryz.func87, Tryz.ntmps87
  go_wp2_with (go_at_call 111; refine hc.mono ?_; rintro e w1 ⟨n, rfl, hn, hb⟩)
  go_returns
  exact ⟨rfl, hb⟩

end Go.Proofs.YtcjoheplilaccaaGreat

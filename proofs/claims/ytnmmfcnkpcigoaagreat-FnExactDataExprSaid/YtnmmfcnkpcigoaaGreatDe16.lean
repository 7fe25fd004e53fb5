/- Parts of the proof, merged: Order2, DataOk. -/
import Derived.Laws.EntriesVeiled
import Derived.Test.YtnmmfcnkpcigoaaGreatDe15
/- The program's inOrder. -/
namespace Go.Proofs.YtnmmfcnkpcigoaaGreat
open Go.RowKit
set_option linter.unusedVariables false
set_option linter.unusedSimpArgs false
attribute [local go_sem] Ext.cell

set_option maxRecDepth 100000 in
set_option maxHeartbeats 4000000 in
theorem inOrder_c (n : Nat) (hn : n ≤ 1152921504606846976) (K : Nat → List Int) (g : Nat) (lb : Array Value) (lo : Nat) (w : World) (hk : KidsGive n K g lb lo w) (eg : ∀ args w, (callFunc g args).run Tryz.prog w = .ok (.enter g args) w) :
    Calls Tryz.prog 43 #[.int .i64 n, .func (.func g) #[] lb] w fun e w' => e = .returned (.bool (decide (endsK n K (n + 1) 0 = n))) ∧ Below w.heap.size w w' := by
  have hw0 := walk_c n hn K g lb lo w hk eg (w.heap.size + 1 + 1) w.heap.size (w.heap.size + 1) (w.heap.size + 1 + 1 + 1) (by omega) (by omega) (by omega) (n + 1) 0 0
  replace hw0 := Lib.hid hw0
  clear hk
  go_enter Tryz.func43, Tryz.ntmps43
  go_upto_region 4 with fail
  have hfz : ((((w.alloc (.cells #[.int .i64 n] 3)).alloc (.cells #[.func (.func g) #[] lb] 87)).alloc (.cells #[.int .i64 0] 3)).alloc (.cells #[.func (.func 75) #[] #[.pointer (some ⟨w.heap.size + 1 + 1, 0, none⟩), .pointer (some ⟨w.heap.size, 0, none⟩), .pointer (some ⟨w.heap.size + 1, 0, none⟩), .pointer (some ⟨w.heap.size + 1 + 1 + 1, 0, none⟩)]] 120)).frozen? ⟨w.heap.size + 1 + 1, 0, none⟩ = false := by go_simp
  have B1 : RowAt (w.alloc (.cells #[.int .i64 n] 3)) (w.heap.size) 0 [.int .i64 n] := RowAt.box w #[.int .i64 n] 3
  have B1 := B1.below (show Below (w.alloc (.cells #[.int .i64 n] 3)).heap.size (w.alloc (.cells #[.int .i64 n] 3)) ((w.alloc (.cells #[.int .i64 n] 3)).alloc (.cells #[.func (.func g) #[] lb] 87)) by go_grown)
  have B2 : RowAt ((w.alloc (.cells #[.int .i64 n] 3)).alloc (.cells #[.func (.func g) #[] lb] 87)) (w.heap.size + 1) 0 [.func (.func g) #[] lb] := by have h := RowAt.box (w.alloc (.cells #[.int .i64 n] 3)) #[.func (.func g) #[] lb] 87; simp only [World.size_alloc] at h; exact h
  have B1 := B1.below (show Below ((w.alloc (.cells #[.int .i64 n] 3)).alloc (.cells #[.func (.func g) #[] lb] 87)).heap.size ((w.alloc (.cells #[.int .i64 n] 3)).alloc (.cells #[.func (.func g) #[] lb] 87)) (((w.alloc (.cells #[.int .i64 n] 3)).alloc (.cells #[.func (.func g) #[] lb] 87)).alloc (.cells #[.int .i64 0] 3)) by go_grown)
  have B2 := B2.below (show Below ((w.alloc (.cells #[.int .i64 n] 3)).alloc (.cells #[.func (.func g) #[] lb] 87)).heap.size ((w.alloc (.cells #[.int .i64 n] 3)).alloc (.cells #[.func (.func g) #[] lb] 87)) (((w.alloc (.cells #[.int .i64 n] 3)).alloc (.cells #[.func (.func g) #[] lb] 87)).alloc (.cells #[.int .i64 0] 3)) by go_grown)
  have B3 : RowAt (((w.alloc (.cells #[.int .i64 n] 3)).alloc (.cells #[.func (.func g) #[] lb] 87)).alloc (.cells #[.int .i64 0] 3)) (w.heap.size + 1 + 1) 0 [.int .i64 0] := by have h := RowAt.box ((w.alloc (.cells #[.int .i64 n] 3)).alloc (.cells #[.func (.func g) #[] lb] 87)) #[.int .i64 0] 3; simp only [World.size_alloc] at h; exact h
  have B1 := B1.below (show Below (((w.alloc (.cells #[.int .i64 n] 3)).alloc (.cells #[.func (.func g) #[] lb] 87)).alloc (.cells #[.int .i64 0] 3)).heap.size (((w.alloc (.cells #[.int .i64 n] 3)).alloc (.cells #[.func (.func g) #[] lb] 87)).alloc (.cells #[.int .i64 0] 3)) ((((w.alloc (.cells #[.int .i64 n] 3)).alloc (.cells #[.func (.func g) #[] lb] 87)).alloc (.cells #[.int .i64 0] 3)).alloc (.cells #[.func (.func 75) #[] #[.pointer (some ⟨w.heap.size + 1 + 1, 0, none⟩), .pointer (some ⟨w.heap.size, 0, none⟩), .pointer (some ⟨w.heap.size + 1, 0, none⟩), .pointer (some ⟨w.heap.size + 1 + 1 + 1, 0, none⟩)]] 120)) by go_grown)
  have B2 := B2.below (show Below (((w.alloc (.cells #[.int .i64 n] 3)).alloc (.cells #[.func (.func g) #[] lb] 87)).alloc (.cells #[.int .i64 0] 3)).heap.size (((w.alloc (.cells #[.int .i64 n] 3)).alloc (.cells #[.func (.func g) #[] lb] 87)).alloc (.cells #[.int .i64 0] 3)) ((((w.alloc (.cells #[.int .i64 n] 3)).alloc (.cells #[.func (.func g) #[] lb] 87)).alloc (.cells #[.int .i64 0] 3)).alloc (.cells #[.func (.func 75) #[] #[.pointer (some ⟨w.heap.size + 1 + 1, 0, none⟩), .pointer (some ⟨w.heap.size, 0, none⟩), .pointer (some ⟨w.heap.size + 1, 0, none⟩), .pointer (some ⟨w.heap.size + 1 + 1 + 1, 0, none⟩)]] 120)) by go_grown)
  have B3 := B3.below (show Below (((w.alloc (.cells #[.int .i64 n] 3)).alloc (.cells #[.func (.func g) #[] lb] 87)).alloc (.cells #[.int .i64 0] 3)).heap.size (((w.alloc (.cells #[.int .i64 n] 3)).alloc (.cells #[.func (.func g) #[] lb] 87)).alloc (.cells #[.int .i64 0] 3)) ((((w.alloc (.cells #[.int .i64 n] 3)).alloc (.cells #[.func (.func g) #[] lb] 87)).alloc (.cells #[.int .i64 0] 3)).alloc (.cells #[.func (.func 75) #[] #[.pointer (some ⟨w.heap.size + 1 + 1, 0, none⟩), .pointer (some ⟨w.heap.size, 0, none⟩), .pointer (some ⟨w.heap.size + 1, 0, none⟩), .pointer (some ⟨w.heap.size + 1 + 1 + 1, 0, none⟩)]] 120)) by go_grown)
  have B4 : RowAt ((((w.alloc (.cells #[.int .i64 n] 3)).alloc (.cells #[.func (.func g) #[] lb] 87)).alloc (.cells #[.int .i64 0] 3)).alloc (.cells #[.func (.func 75) #[] #[.pointer (some ⟨w.heap.size + 1 + 1, 0, none⟩), .pointer (some ⟨w.heap.size, 0, none⟩), .pointer (some ⟨w.heap.size + 1, 0, none⟩), .pointer (some ⟨w.heap.size + 1 + 1 + 1, 0, none⟩)]] 120)) (w.heap.size + 1 + 1 + 1) 0 [.func (.func 75) #[] #[.pointer (some ⟨w.heap.size + 1 + 1, 0, none⟩), .pointer (some ⟨w.heap.size, 0, none⟩), .pointer (some ⟨w.heap.size + 1, 0, none⟩), .pointer (some ⟨w.heap.size + 1 + 1 + 1, 0, none⟩)]] := by have h := RowAt.box (((w.alloc (.cells #[.int .i64 n] 3)).alloc (.cells #[.func (.func g) #[] lb] 87)).alloc (.cells #[.int .i64 0] 3)) #[.func (.func 75) #[] #[.pointer (some ⟨w.heap.size + 1 + 1, 0, none⟩), .pointer (some ⟨w.heap.size, 0, none⟩), .pointer (some ⟨w.heap.size + 1, 0, none⟩), .pointer (some ⟨w.heap.size + 1 + 1 + 1, 0, none⟩)]] 120; simp only [World.size_alloc] at h; exact h
  have hw : Below w.heap.size w ((((w.alloc (.cells #[.int .i64 n] 3)).alloc (.cells #[.func (.func g) #[] lb] 87)).alloc (.cells #[.int .i64 0] 3)).alloc (.cells #[.func (.func 75) #[] #[.pointer (some ⟨w.heap.size + 1 + 1, 0, none⟩), .pointer (some ⟨w.heap.size, 0, none⟩), .pointer (some ⟨w.heap.size + 1, 0, none⟩), .pointer (some ⟨w.heap.size + 1 + 1 + 1, 0, none⟩)]] 120)) := by go_grown
  generalize ((((w.alloc (.cells #[.int .i64 n] 3)).alloc (.cells #[.func (.func g) #[] lb] 87)).alloc (.cells #[.int .i64 0] 3)).alloc (.cells #[.func (.func 75) #[] #[.pointer (some ⟨w.heap.size + 1 + 1, 0, none⟩), .pointer (some ⟨w.heap.size, 0, none⟩), .pointer (some ⟨w.heap.size + 1, 0, none⟩), .pointer (some ⟨w.heap.size + 1 + 1 + 1, 0, none⟩)]] 120)) = w1 at *
  have e4 := B4.box1
  have hcall := hw0.out w1 ⟨by omega, by omega⟩ (by omega) ⟨hw, by omega, by omega, B3.box1, hfz, B1.box1, B2.box1, e4⟩
  clear hw0 B1 B2 B3 B4 hw hfz
  generalize hd : decide (0 ≤ endsK n K (n + 1) 0) = d
  replace hd := Lib.hid hd
  have hcall : Calls Tryz.prog 75 #[.int .i64 0, .pointer (some ⟨w.heap.size + 1 + 1, 0, none⟩), .pointer (some ⟨w.heap.size, 0, none⟩), .pointer (some ⟨w.heap.size + 1, 0, none⟩), .pointer (some ⟨w.heap.size + 1 + 1 + 1, 0, none⟩)] w1 fun e w' => ∃ z : Nat, e = .returned (.bool d) ∧ Four w n g lb (w.heap.size + 1 + 1) w.heap.size (w.heap.size + 1) (w.heap.size + 1 + 1 + 1) z w' ∧ Hid (0 ≤ endsK n K (n + 1) 0 → (z : Int) = endsK n K (n + 1) 0) :=
    hcall.mono fun e w' ⟨z, h1, h2, h3⟩ => ⟨z, by rw [← hd.out, h1]; simp, h2, fun h => h3 rfl h⟩
  cases d with
  | true =>
    have h0 := of_decide_eq_true hd.out
    by_cases hz : endsK n K (n + 1) 0 = n
    · replace hcall : Calls Tryz.prog 75 #[.int .i64 0, .pointer (some ⟨w.heap.size + 1 + 1, 0, none⟩), .pointer (some ⟨w.heap.size, 0, none⟩), .pointer (some ⟨w.heap.size + 1, 0, none⟩), .pointer (some ⟨w.heap.size + 1 + 1 + 1, 0, none⟩)] w1 fun e w' => e = .returned (.bool true) ∧ Four w n g lb (w.heap.size + 1 + 1) w.heap.size (w.heap.size + 1) (w.heap.size + 1 + 1 + 1) n w' :=
        hcall.mono fun e w' ⟨z, h1, h2, h3⟩ => ⟨h1, by have h4 := h3 h0; obtain rfl : z = n := by omega
                                                       exact h2⟩
      have d3 : ((n : Int) == n) = true := by simp
      replace hz := Lib.hid hz
      clear h0
      go_wp2_with (go_at_call 75; refine hcall.mono ?_; rintro e w2 ⟨rfl, F⟩; have e1 := F.c1; have e2 := F.c2)
      go_returns
      exact ⟨by rw [decide_eq_true hz.out]; rfl, F.below⟩
    · replace hcall : Calls Tryz.prog 75 #[.int .i64 0, .pointer (some ⟨w.heap.size + 1 + 1, 0, none⟩), .pointer (some ⟨w.heap.size, 0, none⟩), .pointer (some ⟨w.heap.size + 1, 0, none⟩), .pointer (some ⟨w.heap.size + 1 + 1 + 1, 0, none⟩)] w1 fun e w' => ∃ z : Nat, e = .returned (.bool true) ∧ Four w n g lb (w.heap.size + 1 + 1) w.heap.size (w.heap.size + 1) (w.heap.size + 1 + 1 + 1) z w' ∧ ((z : Int) == n) = false :=
        hcall.mono fun e w' ⟨z, h1, h2, h3⟩ => ⟨z, h1, h2, by have h4 := h3 h0; simp; omega⟩
      replace hz := Lib.hid hz
      clear h0
      go_wp2_with (go_at_call 75; refine hcall.mono ?_; rintro e w2 ⟨z, rfl, F, d3⟩; have e1 := F.c1; have e2 := F.c2)
      go_returns
      exact ⟨by rw [decide_eq_false hz.out]; rfl, F.below⟩
  | false =>
    have h0 := of_decide_eq_false hd.out
    have hz : ¬ endsK n K (n + 1) 0 = n := by omega
    replace hz := Lib.hid hz
    clear h0
    go_wp2_with (go_at_call 75; refine hcall.mono ?_; rintro e w2 ⟨z, rfl, F, -⟩)
    go_returns
    exact ⟨by rw [decide_eq_false hz.out]; rfl, F.below⟩

end Go.Proofs.YtnmmfcnkpcigoaaGreat

/- DataOk: the program's. -/
namespace Go.Proofs.YtnmmfcnkpcigoaaGreat
open Go.RowKit
set_option linter.unusedVariables false
set_option linter.unusedSimpArgs false
attribute [local go_sem] Ext.cell

theorem kidsEnd_all {E : Nat → Int} {L : Int} {P : Nat → Prop} (hE : ∀ k, 0 ≤ E k → (k : Int) + 1 ≤ E k ∧ E k ≤ L) (hP : ∀ k, 0 ≤ E k → ∀ j : Nat, k ≤ j → (j : Int) < E k → P j) : ∀ (ks : List Int) (nx : Int), 0 ≤ nx → 0 ≤ kidsEnd E nx ks →
    (∀ k ∈ ks, 0 ≤ k ∧ k < L) ∧ ∀ j : Nat, nx ≤ j → (j : Int) < kidsEnd E nx ks → P j
  | [], nx, h0, h => ⟨fun k hk => by simp at hk, fun j h1 h2 => by unfold kidsEnd at h2; omega⟩
  | k :: ks, nx, h0, h => by
    unfold kidsEnd at h ⊢
    split at h
    · omega
    · split at h
      · omega
      · rename_i h1 h2
        have e : k = nx := by omega
        have h3 := hE k.toNat (by omega)
        have h4 := kidsEnd_all hE hP ks (E k.toNat) (by omega) h
        rw [if_neg h1, if_neg h2]
        refine ⟨fun k' hk' => ?_, fun j h5 h6 => ?_⟩
        · rcases List.mem_cons.1 hk' with rfl | h7
          · omega
          · exact h4.1 k' h7
        · by_cases h7 : (j : Int) < E k.toNat
          · exact hP k.toNat (by omega) j (by omega) h7
          · exact h4.2 j (by omega) h6
theorem ends_kids (l : List GDNode) : ∀ (f i : Nat), 0 ≤ ends l f i → ∀ j : Nat, i ≤ j → (j : Int) < ends l f i → ∀ x, l[j]? = some x → ∀ k ∈ x.kids, 0 ≤ k ∧ k < (l.length : Int)
  | 0, i, h => by simp [ends] at h
  | f + 1, i, h => by
    unfold ends at h ⊢
    cases hi : l[i]? with
    | none => rw [hi] at h; simp at h
    | some n =>
      rw [hi] at h
      have h1 := kidsEnd_all (ends_range l f) (P := fun j => ∀ x, l[j]? = some x → ∀ k ∈ x.kids, 0 ≤ k ∧ k < (l.length : Int)) (fun k hk j h2 h3 => ends_kids l f k hk j h2 h3) n.kids (i + 1) (by omega) h
      intro j h2 h3 x hx
      by_cases e : i = j
      · subst e
        obtain rfl : n = x := Option.some.inj (hi.symm.trans hx)
        exact h1.1
      · exact h1.2 j (by omega) h3 x hx

def kidsAt (l : List GDNode) (i : Nat) : List Int := (l[i]?.map (·.kids)).getD []
def dataOk (d : GData) : Bool := decide (1 ≤ (d.nodes.length : Int) ∧ (d.nodes.length : Int) ≤ 600) && (decide (endsK d.nodes.length (kidsAt d.nodes) (d.nodes.length + 1) 0 = d.nodes.length) && !d.nodes.any fun x => !nodeOk d.nodes x)

theorem kids_in {d : GData} (h : endsK d.nodes.length (kidsAt d.nodes) (d.nodes.length + 1) 0 = d.nodes.length) {i : Nat} {x : GDNode} (hx : d.nodes[i]? = some x) : ∀ k ∈ x.kids, 0 ≤ k ∧ k < (d.nodes.length : Int) := by
  have h' : ends d.nodes (d.nodes.length + 1) 0 = d.nodes.length := by rw [ends_eq]; exact h
  have hi := (List.getElem?_eq_some_iff.1 hx).1
  exact ends_kids d.nodes (d.nodes.length + 1) 0 (by omega) i (by omega) (by omega) x hx

set_option maxRecDepth 100000 in
set_option maxHeartbeats 4000000 in
theorem kidsOf_c (d : GData) (hd : d.nodes.length ≤ 1152921504606846976) (u : Value) (lo b : Nat) (w : World) (hu : Sl GDNode.R 4 lo w u d.nodes) (hb : w.cell? ⟨b, 0, none⟩ = some u) :
    KidsGive d.nodes.length (kidsAt d.nodes) 44 #[.pointer (some ⟨b, 0, none⟩)] lo w := by
  intro i hi
  obtain ⟨ua, uc, rfl, ul, um, h0⟩ := hu
  obtain ⟨b1, o1, x, r, _, rfl, P1, ⟨u0, rfl, _, hk⟩, r1⟩ := h0.get (Lib.hid rfl) hi
  refine ⟨u0, by unfold kidsAt; rw [P1.out]; exact hk, fun W hW => ?_⟩
  have e1 := cell_below hW hb
  have e2 : W.cell? ⟨b1, o1 + i * 4 + 3, none⟩ = some u0 := cell_below hW (by simpa using r1 3 _ rfl)
  clear h0 P1 hk r1 hb hW
  generalize d.nodes.length = n at *
  show Calls Tryz.prog 44 #[.int .i64 i, .pointer (some ⟨b, 0, none⟩)] W _
  go_enter Tryz.func44, Tryz.ntmps44
  go_wp2_with fail
  go_returns
  exact ⟨rfl, by go_grown⟩

set_option maxRecDepth 100000 in
set_option maxHeartbeats 4000000 in
theorem badNode_c (d : GData) (hd : d.nodes.length ≤ 1152921504606846976) (u : Value) (lo b : Nat) (w : World) (hu : Sl GDNode.R 4 lo w u d.nodes) (hb : w.cell? ⟨b, 0, none⟩ = some u) (x : GDNode) (hin : ∀ k ∈ x.kids, 0 ≤ k ∧ k < (d.nodes.length : Int)) (r : List Value) (W : World) (hW : Below w.heap.size w W) (lo' : Nat) (hx : GDNode.R lo' W r x) :
    Calls Tryz.prog 46 (#[.agg r.toArray] ++ #[.pointer (some ⟨b, 0, none⟩)]) W fun e w' => e = .returned (.bool (!nodeOk d.nodes x)) ∧ Below W.heap.size W w' := by
  have Hx := hx
  obtain ⟨u0, rfl, hwf, hk⟩ := hx
  have c1 := fun W' (hW' : Below W.heap.size W W') => dataNodeOk_c x hwf.2.2 d hd [u] [.int .i64 x.kind, .int .i64 x.n, .string x.s, u0] lo lo' W' ⟨u, rfl, trivial, hu.below GDNode.good (hW.trans (hW'.mono hW.size))⟩ (GDNode.good.below Hx hW') hin
  have e1 := cell_below hW hb
  obtain ⟨a, c, rfl⟩ := hu.form
  obtain ⟨a', c', rfl⟩ := hk.form
  clear hu hk Hx hin hb hW
  generalize nodeOk d.nodes x = q at *
  generalize d.nodes.length = n at *
  generalize x.kids.length = m at *
  replace c1 := Lib.hid c1
  show Calls Tryz.prog 46 #[.agg #[.int .i64 x.kind, .int .i64 x.n, .string x.s, .slice a' m c'], .pointer (some ⟨b, 0, none⟩)] W _
  have hbW := World.block_lt_of_cell? _ _ e1
  go_enter Tryz.func46, Tryz.ntmps46
  go_wp2_with (go_at_call 47; refine (c1.out _ (by go_grown)).mono ?_; rintro e w1 ⟨rfl, hb⟩)
  go_returns
  exact ⟨rfl, Below.trans (by go_grown) (hb.mono (by go_grown))⟩

set_option maxRecDepth 100000 in
set_option maxHeartbeats 4000000 in
theorem DataOk_c (d : GData) (hd : d.nodes.length ≤ 1152921504606846976) (r : List Value) (lo : Nat) (w : World) (hr : GData.R lo w r d) :
    Calls Tryz.prog 19 #[.agg r.toArray] w fun e w' => e = .returned (.bool (dataOk d)) ∧ Below w.heap.size w w' := by
  obtain ⟨u, rfl, -, hu⟩ := hr
  have hu' := hu
  obtain ⟨a, c, rfl⟩ := hu'.form
  clear hu'
  have H1 := fun W (hW : Below w.heap.size w W) => kidsOf_c d hd (.slice a d.nodes.length c) lo w.heap.size W (hu.below GDNode.good hW)
  have H2 := fun W (hW : Below w.heap.size w W) (hb : W.cell? ⟨w.heap.size, 0, none⟩ = some (.slice a d.nodes.length c)) (hk : endsK d.nodes.length (kidsAt d.nodes) (d.nodes.length + 1) 0 = d.nodes.length) =>
    containsFuncDNode_c d.nodes (fun x => !nodeOk d.nodes x) 46 #[.pointer (some ⟨w.heap.size, 0, none⟩)] lo (.slice a d.nodes.length c) W (hu.below GDNode.good hW)
      (fun i x r W' hi hW' hx => badNode_c d hd (.slice a d.nodes.length c) lo w.heap.size W (hu.below GDNode.good hW) hb x (kids_in hk hi) r W' hW' lo hx) (fun _ _ => by kernel_rfl)
  have H3 := fun W (hk : KidsGive d.nodes.length (kidsAt d.nodes) 44 #[.pointer (some ⟨w.heap.size, 0, none⟩)] lo W) => inOrder_c d.nodes.length hd (kidsAt d.nodes) 44 #[.pointer (some ⟨w.heap.size, 0, none⟩)] lo W hk (fun _ _ => by kernel_rfl)
  by_cases h1 : 1 ≤ (d.nodes.length : Int) ∧ (d.nodes.length : Int) ≤ 600
  · have hdk : dataOk d = (decide (endsK d.nodes.length (kidsAt d.nodes) (d.nodes.length + 1) 0 = d.nodes.length) && !d.nodes.any fun x => !nodeOk d.nodes x) := by unfold dataOk; rw [decide_eq_true h1]; rfl
    rw [hdk]
    have q1 : decide (1 ≤ (d.nodes.length : Int) ∧ (d.nodes.length : Int) ≤ 600) = true := decide_eq_true h1
    have W1 := fun W => within_c d.nodes.length 1 600 W
    rw [q1] at W1
    clear q1 hdk h1
    cases hk : decide (endsK d.nodes.length (kidsAt d.nodes) (d.nodes.length + 1) 0 = d.nodes.length)
    · rw [hk] at H3
      clear hk H2
      replace H1 := Lib.hid H1
      replace H3 := Lib.hid H3
      clear hu
      generalize d.nodes.length = n at *
      go_enter Tryz.func19, Tryz.ntmps19
      go_upto_region 1 with fail
      have B : RowAt (w.alloc (.cells #[.slice a n c] 34)) (w.heap.size) 0 [.slice a n c] := RowAt.box w #[.slice a n c] 34
      have hw : Below w.heap.size w (w.alloc (.cells #[.slice a n c] 34)) := by go_grown
      generalize (w.alloc (.cells #[.slice a n c] 34)) = w0 at *
      have b_0 := B.box1; have hsB := World.block_lt_of_cell? _ _ b_0; dsimp only at hsB
      go_wp2_with (first | (go_at_call 42; ((with_reducible refine (W1 _).mono ?_); rintro e w1 ⟨rfl, rfl⟩)) | (go_at_call 43; ((with_reducible refine (H3.out _ (H1.out _ hw b_0)).mono ?_); rintro e w1 ⟨rfl, hb⟩; have hw := hw.trans (hb.mono hw.size); have B := B.below hb; have b_0 := B.box1; have hsB := World.block_lt_of_cell? _ _ b_0; dsimp only at hsB; clear hb)))
      go_returns
      exact ⟨rfl, hw⟩
    · have hk' := of_decide_eq_true hk
      rw [hk] at H3
      replace H2 := fun W hW hb => H2 W hW hb hk'
      clear hk hk'
      generalize (d.nodes.any fun x => !nodeOk d.nodes x) = q at *
      replace H1 := Lib.hid H1
      replace H2 := Lib.hid H2
      replace H3 := Lib.hid H3
      clear hu
      generalize d.nodes.length = n at *
      go_enter Tryz.func19, Tryz.ntmps19
      go_upto_region 1 with fail
      have B : RowAt (w.alloc (.cells #[.slice a n c] 34)) (w.heap.size) 0 [.slice a n c] := RowAt.box w #[.slice a n c] 34
      have hw : Below w.heap.size w (w.alloc (.cells #[.slice a n c] 34)) := by go_grown
      generalize (w.alloc (.cells #[.slice a n c] 34)) = w0 at *
      have b_0 := B.box1; have hsB := World.block_lt_of_cell? _ _ b_0; dsimp only at hsB
      go_wp2_with (first | (go_at_call 42; ((with_reducible refine (W1 _).mono ?_); rintro e w1 ⟨rfl, rfl⟩)) | (go_at_call 43; ((with_reducible refine (H3.out _ (H1.out _ hw b_0)).mono ?_); rintro e w1 ⟨rfl, hb⟩; have hw := hw.trans (hb.mono hw.size); have B := B.below hb; have b_0 := B.box1; have hsB := World.block_lt_of_cell? _ _ b_0; dsimp only at hsB; clear hb)) | (go_at_call 45; ((with_reducible refine (H2.out _ hw b_0).mono ?_); rintro e w1 ⟨rfl, hb⟩; have hw := hw.trans (hb.mono hw.size); have B := B.below hb; have b_0 := B.box1; have hsB := World.block_lt_of_cell? _ _ b_0; dsimp only at hsB; clear hb)))
      go_returns
      exact ⟨rfl, hw⟩
  · have hdk : dataOk d = false := by unfold dataOk; rw [decide_eq_false h1]; rfl
    rw [hdk]
    have q1 : decide (1 ≤ (d.nodes.length : Int) ∧ (d.nodes.length : Int) ≤ 600) = false := decide_eq_false h1
    have W1 := fun W => within_c d.nodes.length 1 600 W
    rw [q1] at W1
    clear q1 hdk h1 H1 H2 H3 hu
    generalize d.nodes.length = n at *
    go_enter Tryz.func19, Tryz.ntmps19
    go_upto_region 1 with fail
    have B : RowAt (w.alloc (.cells #[.slice a n c] 34)) (w.heap.size) 0 [.slice a n c] := RowAt.box w #[.slice a n c] 34
    have hw : Below w.heap.size w (w.alloc (.cells #[.slice a n c] 34)) := by go_grown
    generalize (w.alloc (.cells #[.slice a n c] 34)) = w0 at *
    have b_0 := B.box1; have hsB := World.block_lt_of_cell? _ _ b_0; dsimp only at hsB
    go_wp2_with (go_at_call 42; ((with_reducible refine (W1 _).mono ?_); rintro e w1 ⟨rfl, rfl⟩))
    go_returns
    exact ⟨rfl, hw⟩

end Go.Proofs.YtnmmfcnkpcigoaaGreat

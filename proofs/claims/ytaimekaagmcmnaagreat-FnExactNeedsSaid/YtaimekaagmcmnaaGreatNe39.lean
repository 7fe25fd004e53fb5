/- Parts of the proof, merged: TailS, Nd4. -/
import Derived.Laws.EntriesVeiled
import Derived.Test.YtaimekaagmcmnaaGreatNe38
namespace Go.Proofs.YtaimekaagmcmnaaGreat
open Go.RowKit
set_option linter.unusedVariables false
set_option linter.unusedSimpArgs false

section
variable {α : Type} {R : Reading α} {size : Nat} {f : α → List Value} {wf : α → Prop} {P : Program} (w : World)
theorem run_append_tailS (F : Flat R size f wf) (t ty : TypeId) (base : Nat) (e : TypeId) (i : TypeInfo) (z : Value) (bytes : Nat) (ht : P.underlying t = some (.slice e)) (hi : P.info? e = some i) (hz : i.zero = some z)
    (hsize : i.size = size) (hby : i.bytes = bytes) (hzs : z.cells.size = size)
    (ad0 : Addr) (n c0 : Nat) (xs : List Value) {B : Nat} (hown : Tail B w base e size (.slice (some ad0) n c0) n xs)
    (lo : Nat) (u : Value) (ys : List α) (hu : Sl R size lo w u ys)
    (h63 : B + n + ys.length ≤ maxLen) (hbytes : (B + n + ys.length) * bytes ≤ 140737488355328) (hbase : base ≤ w.heap.size) :
    ∃ v' w', (Builtin.append_ #[t, t] ty #[.slice (some ad0) n c0, u]).run P w = .ok v' w' ∧
      Tail B w' base e size v' (n + ys.length) (xs ++ rowsOf f ys) ∧ w.grownBy w' (Value.slice (some ad0) n c0).ownBlock ∧ (v'.ownBlock = (Value.slice (some ad0) n c0).ownBlock ∨ v'.ownBlock = some w.heap.size) := by
  obtain ⟨a, c, rfl, l1, m1, hh⟩ := hu
  by_cases h0 : 0 < ys.length
  · obtain ⟨b, off, _, hbs, rfl, hrow⟩ := F.cells hh h0
    exact run_append_tail (P := P) w t ty base e i z size bytes ht hi hz hsize hby hzs F.pos _ n xs hown ⟨b, off, none⟩ ys.length c (rowsOf f ys) (F.length ys) (fun j u hj => by
      have hadd : (⟨b, off, none⟩ : Addr).add j = ⟨b, off + j, none⟩ := by unfold Addr.add; split <;> simp_all
      rw [hadd]; exact hrow j u hj) (F.ones ys) h0 h63 hbytes hbase
  · have e0 : ys = [] := List.length_eq_zero_iff.1 (by omega)
    subst e0
    have hs : Src P i.size t (.slice a 0 c) 0 [] w := by
      cases a with
      | none => exact Src.ofNil w ht c
      | some a => exact Src.ofSlice w ht a 0 c [] (by simp) (fun j u h => by simp at h) (fun u h => by simp at h)
    rcases hown.2 with ⟨hv, _⟩ | ⟨g, o, cap, pre, hoB, hv, hp, h2⟩
    · cases hv
    · obtain ⟨rfl, rfl⟩ : ad0 = ⟨g, o * size, none⟩ ∧ c0 = cap := by injection hv with e1 e2 e3; injection e1 with e1; exact ⟨e1, e3⟩
      have hn : n ≤ c0 := by
        rcases h2.2 with ⟨hv, _⟩ | ⟨g', cap', cur, hv, h1, h2, h3, _⟩
        · cases hv
        · injection hv with e1 e2 e3; omega
      have hr := run_append_room_src (P := P) w t t ty e i ht hi g (o * size) n c0 (.slice a 0 c) 0 [] hs (by omega) (fun j h => by simp at h) (fun j h => by simp at h)
      exact ⟨.slice (some ⟨g, o * size, none⟩) n c0, w, by simpa [World.setCells] using hr, by simpa [rowsOf] using hown, ⟨rfl, rfl, rfl, Nat.le_refl _, fun _ _ _ => rfl⟩, .inl rfl⟩
def Tail0 (B : Nat) (w : World) (base : Nat) (e : TypeId) (size : Nat) (v : Value) (n : Nat) (xs : List Value) : Prop := Tail B w base e size v n xs ∨ (n = 0 ∧ xs = [] ∧ ∃ g o, v = .slice (some ⟨g, o, none⟩) 0 0)
theorem Tail0.kept {B : Nat} {S : Nat → Prop} {w w' : World} {base : Nat} {e : TypeId} {size : Nat} {v : Value} {n : Nat} {xs : List Value} (h : Tail0 B w base e size v n xs) (hk : Kept S w w') (hS : ∀ g, v.ownBlock = some g → ¬ S g) : Tail0 B w' base e size v n xs := by
  rcases h with h | h
  · exact .inl (h.kept hk hS)
  · exact .inr h
theorem Tail0.below {B : Nat} {w w' : World} {base : Nat} {e : TypeId} {size : Nat} {v : Value} {n : Nat} {xs : List Value} (h : Tail0 B w base e size v n xs) (hb : Below w.heap.size w w') : Tail0 B w' base e size v n xs := by
  rcases h with h | h
  · exact .inl (h.below hb)
  · exact .inr h
theorem Tail0.form {B : Nat} {w : World} {base : Nat} {e : TypeId} {size : Nat} {v : Value} {n : Nat} {xs : List Value} (h : Tail0 B w base e size v n xs) : ∃ a c, v = .slice a n c := by
  rcases h with h | ⟨rfl, _, g, o, rfl⟩
  · exact h.form
  · exact ⟨_, _, rfl⟩
theorem run_append_tail0 (F : Flat R size f wf) (t ty : TypeId) (base : Nat) (e : TypeId) (i : TypeInfo) (z : Value) (bytes : Nat) (ht : P.underlying t = some (.slice e)) (hi : P.info? e = some i) (hz : i.zero = some z)
    (hsize : i.size = size) (hby : i.bytes = bytes) (hzs : z.cells.size = size)
    (ad0 : Addr) (n c0 : Nat) (xs : List Value) {B : Nat} (hown : Tail0 B w base e size (.slice (some ad0) n c0) n xs)
    (lo : Nat) (u : Value) (ys : List α) (hu : Sl R size lo w u ys)
    (h63 : B + n + ys.length ≤ maxLen) (hbytes : (B + n + ys.length) * bytes ≤ 140737488355328) (hbase : base ≤ w.heap.size) :
    ∃ v' w', (Builtin.append_ #[t, t] ty #[.slice (some ad0) n c0, u]).run P w = .ok v' w' ∧
      Tail0 B w' base e size v' (n + ys.length) (xs ++ rowsOf f ys) ∧ w.grownBy w' (Value.slice (some ad0) n c0).ownBlock ∧ (v'.ownBlock = (Value.slice (some ad0) n c0).ownBlock ∨ v'.ownBlock = some w.heap.size ∧ w.heap.size < w'.heap.size) := by
  rcases hown with hown | ⟨rfl, rfl, g0, o0, hv⟩
  · obtain ⟨v', w', h1, h2, h3, h4⟩ := run_append_tailS (P := P) w F t ty base e i z bytes ht hi hz hsize hby hzs ad0 n c0 xs hown lo u ys hu h63 hbytes hbase
    exact ⟨v', w', h1, .inl h2, h3, h4.imp id fun e => ⟨e, (h2.block _ e).2⟩⟩
  · obtain ⟨rfl, rfl⟩ : ad0 = ⟨g0, o0, none⟩ ∧ c0 = 0 := by injection hv with e1 e2 e3; injection e1 with e1; exact ⟨e1, e3⟩
    obtain ⟨a, c, rfl, l1, m1, hh⟩ := hu
    by_cases h0 : 0 < ys.length
    · obtain ⟨b, off, _, hbs, rfl, hrow⟩ := F.cells hh h0
      have hlen : (rowsOf f ys).length = ys.length * size := F.length ys
      have hr := run_append_grow (P := P) w t ty e i z ht hi hz ⟨g0, o0, none⟩ 0 0 [] (by simp) (fun j u hj => by simp at hj) ⟨b, off, none⟩ ys.length c (rowsOf f ys) (by rw [hsize]; exact hlen) (fun j u hj => by rw [add_none']; exact hrow j u hj) (by omega) (by unfold maxLen at h63; omega) (growslice_fits (by omega) (Nat.le_trans (Nat.mul_le_mul_right _ (by omega)) (hby ▸ hbytes)))
      have hge := grownCap_ge w (0 + ys.length) 0 e
      have hcm : grownCap w (0 + ys.length) 0 e ≤ maxLen := grownCap_le_maxLen w (0 + ys.length) 0 e (by omega)
      refine ⟨_, _, hr, .inl (Tail.of ⟨by rw [List.nil_append, hlen, Nat.zero_add], .inr ⟨w.heap.size, _, _, rfl, hbase, heap_alloc_new w.drew _, hge, hcm, ?_, ?_⟩⟩), ⟨rfl, rfl, rfl, by simp, fun k hk _ => heap_alloc_old w.drew _ hk⟩, .inr ⟨rfl, by simp⟩⟩
      · simp only [Array.size_append, List.size_toArray, size_zeroCells, hzs, List.length_nil, hlen, ← Nat.add_mul, Nat.zero_add] at hge ⊢
        congr 1
        omega
      · simp only [Array.toList_append, List.append_assoc]
        rw [List.nil_append, Nat.zero_add, ← hlen]
        exact List.take_left
    · have e0 : ys = [] := List.length_eq_zero_iff.1 (by omega)
      subst e0
      have hs : Src P i.size t (.slice a 0 c) 0 [] w := by
        cases a with
        | none => exact Src.ofNil w ht c
        | some a => exact Src.ofSlice w ht a 0 c [] (by simp) (fun j u h => by simp at h) (fun u h => by simp at h)
      have hr := run_append_room_src (P := P) w t t ty e i ht hi g0 o0 0 0 (.slice a 0 c) 0 [] hs (by omega) (fun j h => by simp at h) (fun j h => by simp at h)
      exact ⟨.slice (some ⟨g0, o0, none⟩) 0 0, w, by simpa [World.setCells] using hr, .inr ⟨rfl, by simp [rowsOf], _, _, rfl⟩, ⟨rfl, rfl, rfl, Nat.le_refl _, fun _ _ _ => rfl⟩, .inl rfl⟩
theorem wpList_append_tailS (F : Flat R size f wf) {ops : Array Oper} {rest : List Oper} {o : Oper} {a : Act} {Q : Exit → Act → World → Prop} (hgd : o.guard = none) (s x : Operand) (t : TypeId)
    (ho : o.op = .call { callee := .builtin .append, args := #[s, x], argTypes := #[t, t] })
    (base : Nat) (e : TypeId) (i : TypeInfo) (z : Value) (bytes : Nat) (ht : P.underlying t = some (.slice e)) (hi : P.info? e = some i) (hz : i.zero = some z)
    (hsize : i.size = size) (hby : i.bytes = bytes) (hzs : z.cells.size = size)
    (ad0 : Addr) (n c0 : Nat) (xs : List Value) (hs : a.eval s = .slice (some ad0) n c0) {B : Nat} (hown : Tail0 B w base e size (.slice (some ad0) n c0) n xs)
    (lo : Nat) (u : Value) (ys : List α) (hx : a.eval x = u) (hu : Sl R size lo w u ys)
    (h63 : B + n + ys.length ≤ maxLen) (hbytes : (B + n + ys.length) * bytes ≤ 140737488355328) (hbase : base ≤ w.heap.size) (H : Nat) (hH : w.heap.size = H)
    (h : ∀ v' w', Tail0 B w' base e size v' (n + ys.length) (xs ++ rowsOf f ys) → w.grownBy w' (Value.slice (some ad0) n c0).ownBlock → (v'.ownBlock = (Value.slice (some ad0) n c0).ownBlock ∨ v'.ownBlock = some H ∧ H < w'.heap.size) → wpList P ops Q rest (a.put o.dst v') w') : wpList P ops Q (o :: rest) a w :=
  wpList_plain hgd fun _ hK => by
    obtain ⟨v', w', hr, h2, h3, h4⟩ := run_append_tail0 (P := P) w F t o.type base e i z bytes ht hi hz hsize hby hzs ad0 n c0 xs hown lo u ys hu h63 hbytes hbase
    unfold Oper.wp execOp
    simp only [ho, resolve, invoke, builtin, Sem.run_bind, Sem.run_pure, Result.andThen_ok, List.map_toArray, List.map_cons, List.map_nil, hs, hx, hr]
    subst hH
    exact hK _ _ (h v' w' h2 h3 h4)
end
end Go.Proofs.YtaimekaagmcmnaaGreat
namespace Go.Proofs.YtaimekaagmcmnaaGreat
open Go.RowKit
set_option linter.unusedVariables false
set_option linter.unusedSimpArgs false
attribute [local go_sem] Ext.cell

set_option maxRecDepth 100000 in
set_option maxHeartbeats 4000000 in
theorem needClo_c (n : ByteArray) (W : World) (mb : Nat) (mv : Value) (met : List ByteArray) (hm : W.cell? ⟨mb, 0, none⟩ = some mv) (hM : Sl StrR 1 0 W mv met) :
    Calls Tryz.prog 53 (#[.string n] ++ #[.pointer (some ⟨mb, 0, none⟩)]) W fun e w' => e = .returned (.bool (!anyS met n)) ∧ Below W.heap.size W w' := by
  have cN := fun W' (hW : Below W.heap.size W W') => containsS_c met n 0 mv W' (hM.below StrR.good hW)
  rw [show (met.any fun y => n.toList == y.toList) = anyS met n from anyS_list met n] at cN
  have hbl := World.block_lt_of_cell? _ _ hm; dsimp only at hbl
  obtain ⟨ma, mc, rfl⟩ := hM.form
  generalize anyS met n = q at *
  generalize met.length = ml at *
  clear hM
  replace cN := Lib.hid cN
  show Calls Tryz.prog 53 #[.string n, .pointer (some ⟨mb, 0, none⟩)] W _
  go_enter Tryz.func53, Tryz.ntmps53
  go_wp2_with (go_at_call 50; (with_reducible refine (cN.out _ (by go_grown)).mono ?_); rintro e w1 ⟨rfl, hb⟩)
  go_returns
  exact ⟨rfl, hb⟩

def sliceLen : Value → Nat
  | .slice _ n _ => n
  | _ => 0
def metLen (w : World) (b : Nat) : Nat := match w.cell? ⟨b, 0, none⟩ with
  | some v => sliceLen v
  | none => 0
theorem metLen_eq {w : World} {b : Nat} {v : Value} (h : w.cell? ⟨b, 0, none⟩ = some v) : metLen w b = sliceLen v := by unfold metLen; rw [h]
def NdPost (names : List ByteArray) (w : World) (e : Ending) (w' : World) : Prop :=
  ∃ v met, e = .returned v ∧ NdInv names [] met ∧ OwnF 9 1 strRow StrOk w.heap.size w' v (libNames.filter fun n => anyS met n) ∧ Below w.heap.size w w'
theorem anyS_mem {l : List ByteArray} {n : ByteArray} : anyS l n = true ↔ n ∈ l := by
  unfold anyS
  rw [List.any_eq_true]
  constructor
  · rintro ⟨y, hy, h⟩; rw [eqS_iff.1 h]; exact hy
  · intro h; exact ⟨n, h, eqS_iff.2 rfl⟩
structure NdSt (lo mb : Nat) (w : World) (tv mv : Value) (todo met : List ByteArray) (B : Nat) : Prop where
  tail : Tail0 B w lo 9 1 tv todo.length (rowsOf strRow todo)
  ok : ∀ x ∈ todo, StrOk x
  mo : OwnF 9 1 strRow StrOk lo w mv met
  row : RowAt w mb 0 [mv]
  wr : Wr w mb 0 1
  tb : ∀ g, tv.ownBlock = some g → lo ≤ g ∧ g < w.heap.size ∧ g ≠ mb ∧ mv.ownBlock ≠ some g
  mbm : mv.ownBlock ≠ some mb
  lmb : lo ≤ mb
theorem NdSt.below {lo mb : Nat} {w w' : World} {tv mv : Value} {todo met : List ByteArray} {B : Nat} (h : NdSt lo mb w tv mv todo met B) (hb : Below w.heap.size w w') : NdSt lo mb w' tv mv todo met B :=
  ⟨h.tail.below hb, h.ok, h.mo.below hb, h.row.below hb, h.wr.below hb, fun g hg => by obtain ⟨h1, h2, h3⟩ := h.tb g hg; exact ⟨h1, Nat.lt_of_lt_of_le h2 hb.size, h3⟩, h.mbm, h.lmb⟩
theorem NdSt.lt {lo mb : Nat} {w : World} {tv mv : Value} {todo met : List ByteArray} {B : Nat} (h : NdSt lo mb w tv mv todo met B) : mb < w.heap.size := World.block_lt_of_cell? _ _ (h.row 0 _ rfl)
theorem NdSt.pop {lo mb : Nat} {w : World} {tv mv : Value} {n : ByteArray} {t met : List ByteArray} {B : Nat} (h : NdSt lo mb w tv mv (n :: t) met B) :
    ∃ g o cap, tv = .slice (some ⟨g, o, none⟩) (t.length + 1) (cap + 1) ∧ w.cell? ⟨g, o, none⟩ = some (.string n) ∧ t.length ≤ cap ∧ NdSt lo mb w (.slice (some (if cap = 0 then ⟨g, o, none⟩ else ⟨g, o + 1, none⟩)) t.length cap) mv t met (B + 1) := by
  have ht : Tail B w lo 9 1 tv (n :: t).length (rowsOf strRow (n :: t)) := by
    rcases h.tail with h1 | ⟨h1, _⟩
    · exact h1
    · simp at h1
  obtain ⟨g, o, cap, ho, rfl, h1, h2, h3, h4, hR⟩ := ht.cells (by simp)
  rw [List.length_cons] at h3
  obtain ⟨c, rfl⟩ : ∃ c, cap = c + 1 := ⟨cap - 1, by omega⟩
  rw [Nat.mul_one] at *
  have hrow : rowsOf strRow (n :: t) = [.string n] ++ rowsOf strRow t := by simp [rowsOf, strRow]
  refine ⟨g, o, c, rfl, ?_, by omega, ?_⟩
  · have := hR 0 (.string n) (by rw [hrow]; rfl)
    simpa using this
  · have htb := h.tb g rfl
    refine ⟨?_, fun x hx => h.ok x (by simp [hx]), h.mo, h.row, h.wr, fun g' hg' => ?_, h.mbm, h.lmb⟩
    · by_cases hc : c = 0
      · subst hc
        have ht0 : t = [] := List.length_eq_zero_iff.1 (by omega)
        subst ht0
        exact .inr ⟨rfl, rfl, g, o, by simp⟩
      · rw [if_neg hc]
        rw [hrow, List.length_cons] at ht
        have := Tail.tail (x := [.string n]) (xs := rowsOf strRow t) (o := o) (size := 1) (by rw [Nat.mul_one]; exact ht) (by omega) rfl
        rw [Nat.mul_one] at this
        exact .inl this
    · obtain rfl : g = g' := by
        by_cases hc : c = 0
        · rw [if_pos hc] at hg'; simpa [Value.ownBlock] using hg'
        · rw [if_neg hc] at hg'; simpa [Value.ownBlock] using hg'
      exact htb
theorem NdSt.push {lo mb mn g cap B : Nat} {w w1 w2 W : World} {tv mv' : Value} {va : Option Addr} {vc : Nat} {n : ByteArray} {t met : List ByteArray} (h : NdSt lo mb w tv (.slice va mn vc) t met B) (hmn : mn = met.length) (hn : StrOk n)
    (hB : Below w.heap.size w w1) (hgrow : w1.grownBy w2 (Value.slice va mn vc).ownBlock) (hown : w2.ownsRow lo 9 1 (.slice (some ⟨g, 0, none⟩) (mn + 1) cap) (mn + 1) (rowsOf strRow met ++ [.string n]))
    (hat : (Value.slice va mn vc).ownBlock = some g ∨ g = w1.heap.size) (hp' : mv' = .slice (some ⟨g, 0, none⟩) (mn + 1) cap) (hW : W = w2.setCell ⟨mb, 0, none⟩ mv') : NdSt lo mb W tv mv' t (met ++ [n]) B ∧ (lo ≤ w.heap.size → Below lo w W) := by
  subst hp' hW
  have hob := own_base h.mo.1
  have hsz := hB.size
  have hlt := h.lt
  have hgs := hgrow.size
  have hmb := h.lmb
  have K6 := kept_of hgrow hB
  have hnq : ¬ some mb = (Value.slice va mn vc).ownBlock := fun e => h.mbm e.symm
  have hgq : g ≠ mb := by rcases hat with e | e; exact fun e2 => h.mbm (e2 ▸ e); omega
  have KS : Kept (fun k => k = mb ∨ (Value.slice va mn vc).ownBlock = some k) w (w2.setCell ⟨mb, 0, none⟩ (.slice (some ⟨g, 0, none⟩) (mn + 1) cap)) :=
    Kept.set (p := ⟨mb, 0, none⟩) (fun k h1 h2 => K6 k h1 (fun e => h2 (.inr e.symm))) (.inl rfl) _
  have hz2 : (w2.setCell ⟨mb, 0, none⟩ (.slice (some ⟨g, 0, none⟩) (mn + 1) cap)).heap.size = w2.heap.size := by simp [World.setCell]
  refine ⟨⟨h.tail.kept KS (fun g' hg' e => ?_), h.ok, ⟨?_, fun x hx => ?_⟩, (h.row.kept K6 hnq).putAt (j := 0) (by simp) _, (h.wr.kept K6 hnq).set 0 _, fun g' hg' => ?_, ?_, h.lmb⟩, fun hl => ?_⟩
  · obtain ⟨_, _, h3, h4⟩ := h.tb g' hg'
    rcases e with e | e
    · exact h3 e
    · exact h4 e
  · rw [List.length_append, ← hmn, rowsOf_append, rowsOf_one]
    exact own_kept hown ((Kept.refl (· = mb) w2).set (p := ⟨mb, 0, none⟩) rfl _) (fun g' hg' e => by
      obtain rfl : g = g' := by simpa [Value.ownBlock] using hg'
      exact hgq e)
  · rcases List.mem_append.1 hx with hx | hx
    · exact h.mo.2 x hx
    · simp only [List.mem_singleton] at hx; rw [hx]; exact hn
  · obtain ⟨h1, h2, h3, h4⟩ := h.tb g' hg'
    refine ⟨h1, by omega, h3, fun e => ?_⟩
    obtain rfl : g = g' := by simpa [Value.ownBlock] using e
    rcases hat with e2 | e2
    · exact h4 e2
    · omega
  · intro e; exact hgq (by simpa [Value.ownBlock] using e)
  · have := below_grown2 (wr := w) (base := lo) hgrow hB (Below.refl _ w) hl (by have := h.mo.1; rw [← hmn] at this; exact this)
    exact this.setCell (p := ⟨mb, 0, none⟩) hmb _
theorem NdSt.add {lo mb B : Nat} {w w2 : World} {tv tv' mv : Value} {t met ys : List ByteArray} (h : NdSt lo mb w tv mv t met B) (hy : ∀ y ∈ ys, StrOk y)
    (hown : Tail0 B w2 lo 9 1 tv' (t.length + ys.length) (rowsOf strRow t ++ rowsOf strRow ys)) (hgrow : w.grownBy w2 tv.ownBlock) (hat : tv'.ownBlock = tv.ownBlock ∨ tv'.ownBlock = some w.heap.size ∧ w.heap.size < w2.heap.size) (hlo : lo ≤ w.heap.size) :
    NdSt lo mb w2 tv' mv (t ++ ys) met B ∧ Below lo w w2 := by
  have K6 := kept_of hgrow (Below.refl _ w)
  have hgs := hgrow.size
  have hlt := h.lt
  have hmo := own_base h.mo.1
  have hne : ∀ g, some g = tv.ownBlock → g ≠ mb ∧ mv.ownBlock ≠ some g := fun g e => (h.tb g e.symm).2.2
  refine ⟨⟨by rw [List.length_append, rowsOf_append]; exact hown, fun x hx => ?_, h.mo.kept K6 (fun g hg e => (hne g e).2 hg), h.row.kept K6 (fun e => (hne mb e).1 rfl), h.wr.kept K6 (fun e => (hne mb e).1 rfl), fun g hg => ?_, h.mbm, h.lmb⟩, (Below.refl lo w).grown hgrow hlo (fun k hk => (h.tb k hk).1)⟩
  · rcases List.mem_append.1 hx with hx | hx
    · exact h.ok x hx
    · exact hy x hx
  · rcases hat with e | ⟨e, e2⟩
    · rw [e] at hg
      obtain ⟨h1, h2, h3⟩ := h.tb g hg
      exact ⟨h1, by omega, h3⟩
    · rw [e] at hg
      obtain rfl := Option.some.inj hg
      exact ⟨hlo, e2, by omega, fun e3 => by have := (hmo _ e3).2; omega⟩

set_option maxRecDepth 100000 in
set_option maxHeartbeats 16000000 in
theorem LibNeeds_c (names : List ByteArray) (hlen : names.length ≤ 1048576) (u : Value) (lo : Nat) (w : World) (hu : Sl StrR 1 lo w u names) : Calls Tryz.prog 22 #[u] w (NdPost names w) := by
  have cC := fun W (hW : Below w.heap.size w W) => cloneS_c names u lo (by omega) W (hu.below StrR.good hW)
  have hpost : ∀ W v met, NdInv names [] met → OwnF 9 1 strRow StrOk w.heap.size W v (libNames.filter fun n => anyS met n) → Below w.heap.size w W → NdPost names w (.returned v) W := fun W v met h1 h2 h3 => ⟨v, met, rfl, h1, h2, h3⟩
  generalize NdPost names w = Q at *
  replace cC := Lib.hid cC; replace hpost := Lib.hid hpost
  clear hu
  obtain ⟨iJ, hi0, hz0, hz1, hz2⟩ := info_parts info_StrLn; have IJ := Lib.hid hi0; have IJ0 := Lib.hid hz0; have IJ1 := Lib.hid hz1; have IJ2 := Lib.hid hz2; clear hi0 hz0 hz1 hz2
  go_enter Tryz.func22, Tryz.ntmps22
  go_upto_region 2 with (go_at_call 49; (with_reducible refine (cC.out _ (Below.refl _ _)).mono ?_); rintro e w1 ⟨tv, rfl, O1, hb1⟩)
  have hs1 := hb1.size
  go_upto_region 3 with fail
  obtain ⟨w2, hW2⟩ : ∃ W, W = (w1.alloc (.cells #[] 9)).alloc (.cells #[.slice (some ⟨w1.heap.size, 0, none⟩) 0 0] 27) := ⟨_, rfl⟩
  rw [← hW2]
  have hb2 : Below w1.heap.size w1 w2 := by rw [hW2]; go_grown
  have hz2 : w2.heap.size = w1.heap.size + 2 := by rw [hW2]; simp
  have hw := hb1.trans (hb2.mono hs1)
  have S2 : NdSt w.heap.size (w1.heap.size + 1) w2 tv (.slice (some ⟨w1.heap.size, 0, none⟩) 0 0) names [] 0 := by
    have hbl : Below (w1.alloc (.cells #[] 9)).heap.size (w1.alloc (.cells #[] 9)) w2 := by rw [hW2]; go_grown
    have r := RowAt.box (w1.alloc (.cells #[] 9)) #[.slice (some ⟨w1.heap.size, 0, none⟩) 0 0] 27
    have rw_ := Wr.box (w1.alloc (.cells #[] 9)) #[.slice (some ⟨w1.heap.size, 0, none⟩) 0 0] 27
    simp only [World.size_alloc] at r rw_
    rw [← hW2] at r rw_
    have e0 : OwnF 9 1 strRow StrOk w.heap.size (w1.alloc (.cells #[] 9)) (.slice (some ⟨w1.heap.size, 0, none⟩) 0 0) [] := ⟨own_empty_at (heap_alloc_new' _ _ _ rfl) hs1, fun x h => by cases h⟩
    have hob := own_base O1.1
    refine ⟨.inl (Tail.of (own_below O1.1 hb2)), O1.2, e0.below hbl, r, rw_, fun g hg => ?_, by simp [Value.ownBlock], by omega⟩
    have := hob g hg
    exact ⟨this.1, by omega, by omega, fun e => by
      obtain rfl : w1.heap.size = g := by simpa [Value.ownBlock] using e
      omega⟩
  obtain ⟨mb, hmb⟩ : ∃ x, x = w1.heap.size + 1 := ⟨_, rfl⟩
  rw [← hmb] at S2 ⊢
  generalize (Value.slice (some ⟨w1.heap.size, 0, none⟩) 0 0) = mv0 at S2
  clear hW2 hb1 hb2 O1 cC hmb hz2 hs1
  replace hw := Lib.hid hw
  replace S2 := Lib.hid S2
  go_loopw [3] (fun tv wr => ∃ (todo met : List ByteArray) (mv : Value) (B : Nat), Hid (NdSt w.heap.size mb wr tv mv todo met B) ∧ Hid (NdInv names todo met) ∧ Hid (B + todo.length ≤ names.length + 13 * met.length) ∧ Hid (Below w.heap.size w wr)) (fun tv wr => 14 * (13 - metLen wr mb) + sliceLen tv)
  case atStart => exact ⟨names, [], mv0, 0, S2, Lib.hid (NdInv.start names), Lib.hid (by simp), hw⟩
  case round =>
    clear S2 hw
    obtain ⟨todo, met, mv, B, S, I, hB, hw⟩ := hrel
    have hS := S.out
    have hmlen := nodup_libs_len I.out.nd I.out.lib
    have hbd := hB.out
    obtain ⟨ma, mc, rfl⟩ := hS.mo.form
    have hM := metLen_eq (b := mb) (hS.row.box1)
    have hlt := hS.lt
    have m_0 := hS.row.box1
    obtain ⟨ml, hml⟩ : ∃ m, m = met.length := ⟨_, rfl⟩
    rw [← hml] at hM m_0 hmlen
    cases todo with
    | nil =>
      obtain ⟨ta, tc, rfl⟩ := hS.tail.form
      have cL := impl_LibNames_c wr
      have hI := I.out
      have hwB := hw.out
      have hszr := hwB.size
      have hall : ∀ (w5 : World) gl cap, Below wr.heap.size wr w5 → OwnF 9 1 strRow StrOk wr.heap.size w5 (.slice (some ⟨gl, 0, none⟩) 13 cap) libNames →
          Calls Tryz.prog 23 #[.slice (some ⟨gl, 0, none⟩) 13 cap, .func (.func 53) #[] #[.pointer (some ⟨mb, 0, none⟩)]] w5 (fun e w' => ∃ v', e = .returned v' ∧ OwnF 9 1 strRow StrOk w.heap.size w' v' (libNames.filter fun n => anyS met n) ∧ Below w.heap.size w w') := fun w5 gl cap hb5 hO => by
        have hgl := hO.base gl rfl
        have hs5 := hb5.size
        have hf : (libNames.filter fun y => !(!anyS met y)) = libNames.filter fun n => anyS met n := by congr 1; funext y; rw [Bool.not_not]
        refine (deleteFuncS_c libNames (fun n => !anyS met n) 53 #[.pointer (some ⟨mb, 0, none⟩)] wr.heap.size gl 13 cap w5 hgl.1 hs5 (by decide) rfl hO (fun x W hx hK hW => ?_) (fun _ _ => by kernel_rfl)).mono ?_
        · have r5 := (hS.row.below hb5).kept hK (by omega)
          have o5 := (hS.mo.below hb5).kept hK (fun g hg e => by have := (own_base hS.mo.1 g hg).2; omega)
          exact needClo_c x W mb _ met r5.box1 ((o5.sl flatStr).mono StrR.good (Nat.zero_le _))
        · rintro e w6 ⟨v', rfl, h1, h2, h3, h4⟩
          rw [hf] at h1
          exact ⟨v', rfl, h1.mono hszr, hwB.trans ((hb5.trans (h4.mono (Nat.le_refl _))).mono hszr)⟩
      replace cL := Lib.hid cL; replace hall := Lib.hid hall; replace hI := Lib.hid hI
      clear hS S hB hbd hM I
      go_wp2_with (first
        | (go_at_call 24; (with_reducible refine (cL.out).mono ?_); rintro e w5 ⟨lv, rfl, OL, hb5⟩; obtain ⟨gl, lcap, rfl, l1, l2, l3, l4, LR, l6⟩ := own_cells OL (by decide); have OL2 : OwnF 9 1 strRow StrOk wr.heap.size w5 (.slice (some ⟨gl, 0, none⟩) 13 lcap) libNames := ⟨OL, libNames_ok⟩; have hD := hall.out w5 gl lcap hb5 OL2; replace hD := Lib.hid hD; clear OL OL2 LR l6)
        | (go_at_call 23; (with_reducible refine (hD.out).mono ?_); rintro e w6 ⟨v6, rfl, O6, hw6⟩))
      exact hpost.out _ _ met hI.out O6 hw6
    | cons n t =>
      obtain ⟨g, o, cap, rfl, e_0, hcap, S1⟩ := hS.pop
      have hbb1 := World.block_lt_of_cell? _ _ e_0; dsimp only at hbb1
      rw [← hml] at S1 hS
      rw [List.length_cons] at hbd
      have cN := fun W (hW : Below wr.heap.size wr W) => containsS_c met n _ _ W ((hS.mo.below hW).sl flatStr)
      rw [show (met.any fun y => n.toList == y.toList) = anyS met n from anyS_list met n] at cN
      have cF := fun W => libFun_c n W
      have hno := hS.ok n (by simp)
      have hI := I.out
      have hwB := hw.out
      have hszr := hwB.size
      have hq1m : anyS met n = true ↔ n ∈ met := anyS_mem
      obtain ⟨q1, hq1⟩ : ∃ q, anyS met n = q := ⟨_, rfl⟩
      obtain ⟨q2, hq2⟩ : ∃ q, (libFunP n).toList.isEmpty = q := ⟨_, rfl⟩
      have hq2' : ((libFunP n).toList == []) = q2 := by rw [← hq2]; cases (libFunP n).toList <;> rfl
      have hlib : isLib n ↔ q2 = false := by
        rw [← hq2]
        unfold isLib
        rw [ByteArray.toList_eq]
        constructor
        · intro h
          cases hx : (libFunP n).data.toList with
          | nil => exact absurd (eqS_iff.1 (by unfold eqS; rw [hx]; rfl)) h
          | cons a l => rfl
        · intro h e
          rw [e] at h
          exact absurd h (by decide)
      rw [hq1] at cN hq1m
      generalize hlf : libFunP n = lf at *
      clear I hS S hB hw hq1
      replace cN := Lib.hid cN; replace cF := Lib.hid cF; replace hI := Lib.hid hI; replace hwB := Lib.hid hwB; replace hq1m := Lib.hid hq1m; replace hlib := Lib.hid hlib; replace hml := Lib.hid hml; replace hlf := Lib.hid hlf; replace hM := Lib.hid hM
      have hS1 := Lib.hid S1
      clear S1
      have hwx : ∀ W, Below wr.heap.size wr W → metLen W mb = ml := fun W hW => by rw [metLen_eq (cell_below hW m_0)]; rfl
      replace hwx := Lib.hid hwx
      obtain ⟨tn, htn⟩ : ∃ x, x = t.length := ⟨_, rfl⟩
      rw [← htn] at hbd hcap hS1 ⊢
      replace htn := Lib.hid htn
      have hml2 := hml.out
      have hbd2 : B + (tn + 1) ≤ 2000000 := by omega
      by_cases hc : cap = 0
      case' pos =>
        subst hc
        rw [if_pos rfl] at hS1
        obtain rfl : tn = 0 := by omega
        go_upto_region 6 with fail
      case' neg =>
        rw [if_neg hc] at hS1
        go_upto_region 6 with fail
      all_goals
        have hskip : (q1 = true ∨ q2 = true) → ∀ (W : World), Below wr.heap.size wr W → Hid (NdSt w.heap.size mb W _ (.slice ma ml mc) t met (B + 1)) ∧ Hid (NdInv names t met) ∧ Hid (B + 1 + t.length ≤ names.length + 13 * met.length) ∧ Hid (Below w.heap.size w W) := fun hq W hW =>
          ⟨Lib.hid (hS1.out.below hW), Lib.hid (hI.out.skip (by
            rcases hq with h | h
            · exact .inl (hq1m.out.1 h)
            · exact .inr (fun hl => by have := hlib.out.1 hl; rw [h] at this; cases this))), Lib.hid (by have := htn.out; omega), Lib.hid (hwB.out.trans (hW.mono hszr))⟩
        replace hskip := Lib.hid hskip; replace hml2 := Lib.hid hml2
        cases q1
        rotate_left
        · go_wp2_with (go_at_call 50; (with_reducible refine (cN.out _ (Below.refl _ _)).mono ?_); rintro e w1 ⟨rfl, hb1⟩)
          go_roundw
          case rel =>
            obtain ⟨h1, h2, h3, h4⟩ := hskip.out (.inl (by first | rfl | trivial)) _ hb1
            exact ⟨t, met, _, B + 1, h1, h2, h3, h4⟩
          case measure => rw [hwx.out _ hb1, hM.out]; simp only [sliceLen]; omega
        cases q2
        rotate_left
        · go_wp2_with (first | (go_at_call 50; (with_reducible refine (cN.out _ (Below.refl _ _)).mono ?_); rintro e w1 ⟨rfl, hb1⟩) | (go_at_call 51; (with_reducible refine (cF.out _).mono ?_); rintro e w2 ⟨rfl, hb2⟩))
          have hb := hb1.trans (hb2.mono hb1.size)
          go_roundw
          case rel =>
            obtain ⟨h1, h2, h3, h4⟩ := hskip.out (.inr (by first | rfl | trivial)) _ hb
            exact ⟨t, met, _, B + 1, h1, h2, h3, h4⟩
          case measure => rw [hwx.out _ hb, hM.out]; simp only [sliceLen]; omega
        have hnl : isLib n := hlib.out.2 rfl
        have hnm : n ∉ met := fun h => by have := hq1m.out.2 h; cases this
        have hml13 : ml < 13 := by have := nodup_libs_lt hI.out.nd hI.out.lib hnm hnl; have := hml.out; omega
        obtain ⟨x, hx⟩ := libFun_some hnl
        have hTL := treeL_out (libFun_len n |> fun h => by omega) hx
        have cU : ∀ W, Calls Tryz.prog 52 #[.string n] W fun e w' => ∃ v, e = .returned (.tuple #[v, .bool (ownX n x)]) ∧ OwnF 9 1 strRow StrOk W.heap.size w' v (usesX n x libNames) ∧ Below W.heap.size W w' := fun W => libUses_c n x hTL W
        have hus : usesT n = usesX n x libNames := by unfold usesT; rw [hx]
        have hlu := usesT_len n
        have hI2 := hI.out.take hnm hnl
        rw [hus] at hI2 hlu
        generalize usesX n x libNames = us at *
        replace cU := Lib.hid cU; replace hI2 := Lib.hid hI2; replace hus := Lib.hid hus; replace hx := Lib.hid hx
        clear hskip hTL
        go_upto_region 7 with (first | (go_at_call 50; (with_reducible refine (cN.out _ (Below.refl _ _)).mono ?_); rintro e w1 ⟨rfl, hb1⟩) | (go_at_call 51; (with_reducible refine (cF.out _).mono ?_); rintro e w2 ⟨rfl, hb2⟩))
        have hb := hb1.trans (hb2.mono hb1.size)
        have hS2 := hS1.out.below hb
        have hw2 := hwB.out.trans (hb.mono hszr)
        have hM2 := hwx.out w2 hb
        clear hb1 hb2 hb m_0 e_0
        have hmo2 := hS2.mo.1
        have hm2 := hml2.out
        rw [← hm2] at hmo2
        have hmb2 := hS2.mbm
        have hlt2b := hS2.lt
        obtain ⟨hm_0, hmf_0⟩ := And.intro hS2.row.box1 (hS2.wr.frz 0 (by omega))
        have hrow2 := hS2.row
        have hwr2 := hS2.wr
        have hsz2 := hw2.size
        have hex : ∀ (w3 w4 : World) g' cap', Below w2.heap.size w2 w3 → w3.grownBy w4 (Value.slice ma ml mc).ownBlock → w4.ownsRow w.heap.size 9 1 (.slice (some ⟨g', 0, none⟩) (ml + 1) cap') (ml + 1) (rowsOf strRow met ++ [.string n]) → ((Value.slice ma ml mc).ownBlock = some g' ∨ g' = w3.heap.size) →
            NdSt w.heap.size mb (w4.setCell ⟨mb, 0, none⟩ (.slice (some ⟨g', 0, none⟩) (ml + 1) cap')) _ (.slice (some ⟨g', 0, none⟩) (ml + 1) cap') t (met ++ [n]) (B + 1) ∧ (w.heap.size ≤ w2.heap.size → Below w.heap.size w2 (w4.setCell ⟨mb, 0, none⟩ (.slice (some ⟨g', 0, none⟩) (ml + 1) cap'))) :=
          fun w3 w4 g' cap' hB h1 h2 h3 => hS2.push hm2 hno hB h1 h2 h3 rfl rfl
        replace hex := Lib.hid hex; replace hmo2 := Lib.hid hmo2; replace hrow2 := Lib.hid hrow2; replace hwr2 := Lib.hid hwr2; replace hmb2 := Lib.hid hmb2; replace hw2 := Lib.hid hw2
        clear hS2 hm2
        go_upto_region 8 with ((at_builtin; refine wpList_append_lies _ rfl _ _ _ rfl (w.heap.size) 9 iJ _ 1 16 Tryz.underlying27 IJ.out IJ0.out IJ1.out IJ2.out rfl (by omega) (.slice ma ml mc) (ml) (rowsOf strRow met) rfl (own_below hmo2.out (by go_grown)) ⟨w2.heap.size, 0, none⟩ 1 1 [.string n] rfl rfl (World.news_of_block (cs := #[.string n]) (t := 9) (fr := (0, 0)) (heap_alloc_new' _ _ _ (by simp))) (by intro u hu; simp at hu; (first | (subst hu; rfl) | (rcases hu with rfl | rfl | rfl | rfl <;> rfl) | (rcases hu with rfl | rfl | rfl | rfl | rfl | rfl <;> rfl) | (rcases hu with rfl | rfl | rfl | rfl | rfl | rfl | rfl <;> rfl) | (rcases hu with rfl | rfl | rfl | rfl | rfl | rfl | rfl | rfl | rfl <;> rfl))) (by omega) (by unfold maxLen; omega) (by omega) (by simp; omega) _ rfl ?_; intro g2 cap2 w6 hown hgrow hat hlt6); have hx2 := hex.out _ _ _ _ (by go_grown) hgrow hown hat; have k7 := kept_of hgrow (w := w2) (by go_grown); have u_0 := (hrow2.out.kept k7 (fun e => hmb2.out e.symm)).box1; have uf_0 := (hwr2.out.kept k7 (fun e => hmb2.out e.symm)).frz 0 (by omega); have ubl := World.block_lt_of_cell? _ _ u_0; dsimp only at ubl)
        obtain ⟨hS7, hB7⟩ := hx2
        have hw7 := hw2.out.trans (hB7 hsz2)
        clear hown hgrow hat hlt6 k7 u_0 uf_0 ubl hm_0 hmf_0 hex hmo2 hrow2 hwr2 hmb2 hB7 hM2
        generalize w6.setCell ⟨mb, 0, none⟩ (.slice (some ⟨g2, 0, none⟩) (ml + 1) cap2) = w7 at *
        go_upto_region 9 with (go_at_call 52; (with_reducible refine (cU.out _).mono ?_); rintro e w8 ⟨uv, rfl, OU, hb8⟩)
        have hS8 := hS7.below hb8
        have hw8 := hw7.trans (hb8.mono hw7.size)
        have hsz8 := hw8.size
        have hys : ∀ y ∈ us, StrOk y := OU.2
        have hUs := OU.sl flatStr
        have hT8 := hS8.tail
        rw [← htn.out] at hT8
        replace hT8 := Lib.hid hT8; replace hUs := Lib.hid hUs; replace hys := Lib.hid hys
        have hS8' := Lib.hid hS8
        have hw8' := Lib.hid hw8
        clear hS7 hS8 hw7 OU hb8 hw8
        go_wp2_with (at_builtin; refine wpList_append_tailS _ flatStr rfl _ _ _ rfl w.heap.size 9 iJ _ 16 Tryz.underlying27 IJ.out IJ0.out IJ1.out IJ2.out rfl _ _ _ (rowsOf strRow t) rfl hT8.out _ _ us rfl hUs.out (by unfold maxLen; omega) (by omega) (by omega) _ rfl ?_; intro v9 w9 hown9 hgrow9 hat9; obtain ⟨va9, vc9, rfl⟩ := hown9.form)
        have hadd := hS8'.out.add hys.out (by rw [← htn.out]; exact hown9) hgrow9 hat9 hsz8
        have hM9 := metLen_eq hadd.1.row.box1
        have hadd1 := hadd.1
        try simp only [Nat.zero_add] at hadd1
        have htn2 := htn.out
        have hml3 := hml.out
        go_roundw
        case rel => exact ⟨t ++ us, met ++ [n], _, B + 1, Lib.hid hadd1, hI2, Lib.hid (by simp only [List.length_append, List.length_singleton]; omega), Lib.hid (hw8'.out.trans hadd.2)⟩
        case measure => rw [hM9, hM.out]; simp only [sliceLen]; omega
end Go.Proofs.YtaimekaagmcmnaaGreat

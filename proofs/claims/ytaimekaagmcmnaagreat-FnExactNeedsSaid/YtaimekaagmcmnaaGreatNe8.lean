/- Parts of the proof, merged: Flat, Fill. -/
import Derived.Deep.AppendSrc
import Derived.Deep.RegionLaw
import Derived.Test.YtaimekaagmcmnaaGreatNe7
/- Slices of flat elements (no pointers inside) that the call owns: their cells, how they read, append of a whole slice. No program is named here. -/
namespace Go.Proofs.YtaimekaagmcmnaaGreat
open Go.RowKit
set_option linter.unusedVariables false
set_option linter.unusedSimpArgs false

structure Flat {α : Type} (R : Reading α) (sz : Nat) (f : α → List Value) (wf : α → Prop) : Prop where
  row : ∀ {lo w r x}, R lo w r x → r = f x ∧ wf x
  back : ∀ {x}, wf x → ∀ lo w, R lo w (f x) x
  len : ∀ x, (f x).length = sz
  one : ∀ x, ∀ u ∈ f x, u.oneCell' = true
  pos : 0 < sz

def rowsOf {α : Type} (f : α → List Value) (xs : List α) : List Value := xs.flatMap f

section
variable {α : Type} {R : Reading α} {sz : Nat} {f : α → List Value} {wf : α → Prop}

theorem rowsOf_append (xs ys : List α) : rowsOf f (xs ++ ys) = rowsOf f xs ++ rowsOf f ys := by unfold rowsOf; rw [List.flatMap_append]
theorem rowsOf_one (x : α) : rowsOf f [x] = f x := by unfold rowsOf; simp
theorem Flat.length (F : Flat R sz f wf) : ∀ xs : List α, (rowsOf f xs).length = xs.length * sz
  | [] => by simp [rowsOf]
  | x :: xs => by
    have h := F.length xs
    have e : rowsOf f (x :: xs) = f x ++ rowsOf f xs := by unfold rowsOf; simp
    rw [e, List.length_append, F.len, h, List.length_cons, Nat.succ_mul]; omega
theorem Flat.get (F : Flat R sz f wf) : ∀ {xs : List α} {i : Nat} {x : α} {j : Nat} {c : Value}, xs[i]? = some x → (f x)[j]? = some c → (rowsOf f xs)[i * sz + j]? = some c
  | [], i, x, j, c, h, _ => by simp at h
  | y :: xs, 0, x, j, c, h, hj => by
    obtain rfl : y = x := by simpa using h
    have e : rowsOf f (y :: xs) = f y ++ rowsOf f xs := by unfold rowsOf; simp
    rw [e, Nat.zero_mul, Nat.zero_add, List.getElem?_append_left (List.getElem?_eq_some_iff.1 hj).1, hj]
  | y :: xs, i + 1, x, j, c, h, hj => by
    have ih := F.get (xs := xs) (i := i) (x := x) (j := j) (c := c) (by simpa using h) hj
    have e : rowsOf f (y :: xs) = f y ++ rowsOf f xs := by unfold rowsOf; simp
    rw [e, List.getElem?_append_right (by rw [F.len, Nat.succ_mul]; omega), F.len, show (i + 1) * sz + j - sz = i * sz + j by rw [Nat.succ_mul]; omega]
    exact ih
theorem Flat.inv (F : Flat R sz f wf) : ∀ {xs : List α} {j : Nat} {c : Value}, (rowsOf f xs)[j]? = some c → ∃ i x t, xs[i]? = some x ∧ (f x)[t]? = some c ∧ j = i * sz + t
  | [], j, c, h => by simp [rowsOf] at h
  | y :: xs, j, c, h => by
    have e : rowsOf f (y :: xs) = f y ++ rowsOf f xs := by unfold rowsOf; simp
    rw [e] at h
    by_cases hj : j < sz
    · rw [List.getElem?_append_left (by rw [F.len]; exact hj)] at h
      exact ⟨0, y, j, rfl, h, by omega⟩
    · rw [List.getElem?_append_right (by rw [F.len]; omega), F.len] at h
      obtain ⟨i, x, t, h1, h2, h3⟩ := F.inv h
      exact ⟨i + 1, x, t, by simpa using h1, h2, by rw [Nat.succ_mul]; omega⟩
theorem Flat.ones (F : Flat R sz f wf) (xs : List α) : ∀ u ∈ rowsOf f xs, u.oneCell' = true := fun u hu => by
  unfold rowsOf at hu
  obtain ⟨x, _, hx⟩ := List.mem_flatMap.1 hu
  exact F.one x u hx

theorem Flat.wfs (F : Flat R sz f wf) {lo : Nat} {w : World} {v : Value} {xs : List α} (h : Sl R sz lo w v xs) : ∀ x ∈ xs, wf x := fun x hx => by
  obtain ⟨i, hi, rfl⟩ := List.getElem_of_mem hx
  obtain ⟨a, c, rfl, _, _, h0⟩ := h
  obtain ⟨b, off, y, r, _, _, P1, hy, _⟩ := h0.get (Lib.hid rfl) hi
  obtain rfl : xs[i] = y := by have := P1.out; rw [List.getElem?_eq_getElem hi] at this; exact Option.some.inj this
  exact (F.row hy).2
theorem Flat.cells (F : Flat R sz f wf) {lo : Nat} {w : World} {a : Option Addr} {xs : List α} (h : SlAt R sz lo w a xs) (h0 : 0 < xs.length) :
    ∃ b off, lo ≤ b ∧ b < w.heap.size ∧ a = some ⟨b, off, none⟩ ∧ RowAt w b off (rowsOf f xs) := by
  obtain ⟨b, off, hl, ha, h4⟩ := h h0
  have hrow : RowAt w b off (rowsOf f xs) := fun j c hc => by
    obtain ⟨i, x, t, h1, h2, rfl⟩ := F.inv hc
    obtain ⟨r, h5, h6⟩ := h4 i x h1
    obtain ⟨rfl, _⟩ := F.row h5
    have := h6 t c h2
    rwa [Nat.add_assoc] at this
  refine ⟨b, off, hl, ?_, ha, hrow⟩
  have h1 : 0 < (rowsOf f xs).length := by rw [F.length]; exact Nat.mul_pos h0 F.pos
  exact World.block_lt_of_cell? w _ (hrow 0 _ (List.getElem?_eq_getElem h1))

def OwnF (e : TypeId) (sz : Nat) (f : α → List Value) (wf : α → Prop) (lo : Nat) (w : World) (v : Value) (xs : List α) : Prop :=
  w.ownsRow lo e sz v xs.length (rowsOf f xs) ∧ ∀ x ∈ xs, wf x
theorem own_form {w : World} {base : Nat} {e : TypeId} {size : Nat} {v : Value} {n : Nat} {xs : List Value} (h : w.ownsRow base e size v n xs) : ∃ a c, v = .slice a n c := by
  rcases h.2 with ⟨rfl, rfl⟩ | ⟨g, cap, cur, rfl, _⟩ <;> exact ⟨_, _, rfl⟩
theorem own_lo {w : World} {base base' : Nat} {e : TypeId} {size : Nat} {v : Value} {n : Nat} {xs : List Value} (h : w.ownsRow base e size v n xs) (hb : base' ≤ base) : w.ownsRow base' e size v n xs := by
  refine ⟨h.1, ?_⟩
  rcases h.2 with h0 | ⟨g', cap', cur, hv, h1, h2⟩
  · exact .inl h0
  · exact .inr ⟨g', cap', cur, hv, Nat.le_trans hb h1, h2⟩
theorem OwnF.form {e : TypeId} {lo : Nat} {w : World} {v : Value} {xs : List α} (h : OwnF e sz f wf lo w v xs) : ∃ a c, v = .slice a xs.length c := own_form h.1
theorem OwnF.below {e : TypeId} {lo : Nat} {w w' : World} {v : Value} {xs : List α} (h : OwnF e sz f wf lo w v xs) (hb : Below w.heap.size w w') : OwnF e sz f wf lo w' v xs := ⟨own_below h.1 hb, h.2⟩
theorem OwnF.kept {S : Nat → Prop} {e : TypeId} {lo : Nat} {w w' : World} {v : Value} {xs : List α} (h : OwnF e sz f wf lo w v xs) (hk : Kept S w w') (hS : ∀ g, v.ownBlock = some g → ¬ S g) : OwnF e sz f wf lo w' v xs := ⟨own_kept h.1 hk hS, h.2⟩
theorem OwnF.base {e : TypeId} {lo : Nat} {w : World} {v : Value} {xs : List α} (h : OwnF e sz f wf lo w v xs) : ∀ g, v.ownBlock = some g → lo ≤ g ∧ g < w.heap.size := own_base h.1
theorem OwnF.mono {e : TypeId} {lo lo' : Nat} {w : World} {v : Value} {xs : List α} (h : OwnF e sz f wf lo w v xs) (hl : lo' ≤ lo) : OwnF e sz f wf lo' w v xs := ⟨own_lo h.1 hl, h.2⟩
theorem OwnF.empty {e : TypeId} {lo : Nat} {w : World} : OwnF e sz f wf lo w (.slice none 0 0) ([] : List α) := ⟨own_none, fun x h => by cases h⟩
theorem OwnF.sl {e : TypeId} (F : Flat R sz f wf) {lo : Nat} {w : World} {v : Value} {xs : List α} (h : OwnF e sz f wf lo w v xs) : Sl R sz lo w v xs := by
  by_cases h0 : 0 < xs.length
  · obtain ⟨g, cap, rfl, h1, h2, h3, h4, h5, h6⟩ := own_cells h.1 h0
    refine ⟨_, cap, rfl, h3, h4, fun _ => ⟨g, 0, h1, rfl, fun i x hx => ⟨f x, F.back (h.2 x (List.mem_of_getElem? hx)) _ _, fun j c hc => ?_⟩⟩⟩
    rw [Nat.zero_add]
    have := h5 _ c (F.get hx hc)
    rwa [Nat.zero_add] at this
  · have h1 : xs = [] := List.length_eq_zero_iff.1 (by omega)
    subst h1
    rcases h.1.2 with ⟨rfl, _⟩ | ⟨g, cap, cur, rfl, h1, h2, h3, h4, h5⟩
    · exact Sl.nil
    · exact ⟨_, cap, rfl, h3, by unfold maxLen at h4; omega, fun h => absurd h (by simp)⟩
theorem own_take {w : World} {base : Nat} {e : TypeId} {size : Nat} {g n cap m : Nat} {xs : List Value} (h : w.ownsRow base e size (.slice (some ⟨g, 0, none⟩) n cap) n xs) (hm : m ≤ n) : w.ownsRow base e size (.slice (some ⟨g, 0, none⟩) m cap) m (xs.take (m * size)) := by
  have hms : m * size ≤ n * size := Nat.mul_le_mul_right _ hm
  refine ⟨by rw [List.length_take, h.1]; omega, ?_⟩
  rcases h.2 with ⟨hv, _⟩ | ⟨g', cap', cur, hv, h1, h2, h3, h4, h5, h6⟩
  · cases hv
  · obtain ⟨rfl, rfl⟩ : g = g' ∧ cap = cap' := by injection hv with e1 e2 e3; injection e1 with e1; injection e1 with e1; exact ⟨e1, e3⟩
    exact .inr ⟨g, cap, cur, rfl, h1, h2, by omega, h4, h5, by rw [← h6, List.take_take, Nat.min_eq_left hms]⟩
theorem rowsOf_take (F : Flat R sz f wf) (xs : List α) (m : Nat) (hm : m ≤ xs.length) : (rowsOf f xs).take (m * sz) = rowsOf f (xs.take m) := by
  have e : rowsOf f xs = rowsOf f (xs.take m) ++ rowsOf f (xs.drop m) := by rw [← rowsOf_append, List.take_append_drop]
  rw [e, List.take_append_of_le_length (by rw [F.length, List.length_take]; exact Nat.mul_le_mul_right _ (by omega)), List.take_of_length_le (by rw [F.length, List.length_take]; exact Nat.mul_le_mul_right _ (by omega))]
theorem OwnF.take (F : Flat R sz f wf) {e : TypeId} {lo : Nat} {w : World} {g cap n m : Nat} {xs : List α} (h : OwnF e sz f wf lo w (.slice (some ⟨g, 0, none⟩) n cap) xs) (hn : n = xs.length) (hm : m ≤ n) :
    OwnF e sz f wf lo w (.slice (some ⟨g, 0, none⟩) m cap) (xs.take m) := by
  subst hn
  refine ⟨?_, fun x hx => h.2 x (List.mem_of_mem_take hx)⟩
  have := own_take h.1 hm
  rw [rowsOf_take F xs m hm] at this
  rwa [show (xs.take m).length = m by rw [List.length_take]; omega]

/-! ### One element is stored anew -/
theorem storeRow_block (g : Nat) : ∀ (r : List Value) (w : World) (off : Nat) (cur : Array Value) (e : TypeId), w.heap[g]? = some (.cells cur e (0, 0)) → off + r.length ≤ cur.size →
    ∃ cur', (storeRow w g off r).heap[g]? = some (.cells cur' e (0, 0)) ∧ cur'.size = cur.size ∧ cur'.toList = cur.toList.take off ++ r ++ cur.toList.drop (off + r.length)
  | [], w, off, cur, e, h, ho => ⟨cur, h, rfl, by simp⟩
  | c :: r, w, off, cur, e, h, ho => by
    simp only [List.length_cons] at ho
    have h1 : (w.setCell ⟨g, off, none⟩ c).heap[g]? = some (.cells (cur.set! off c) e (0, 0)) := by
      simp [World.setCell, Array.getElem?_modify, h]
    obtain ⟨cur', h2, h3, h4⟩ := storeRow_block g r (w.setCell ⟨g, off, none⟩ c) (off + 1) (cur.set! off c) e h1 (by simp; omega)
    refine ⟨cur', h2, by rw [h3]; simp, ?_⟩
    rw [h4]
    have hlt : off < cur.toList.length := by simp; omega
    have e1 : (cur.set! off c).toList = cur.toList.set off c := by simp
    rw [e1, List.take_succ_eq_append_getElem (by simpa using hlt)]
    rw [List.take_set_of_le (Nat.le_refl _)]
    simp only [List.getElem_set_self, List.length_cons, List.append_assoc, List.cons_append, List.nil_append]
    rw [List.drop_set_of_lt (by omega)]
    rw [show off + 1 + r.length = off + (r.length + 1) by omega]
theorem own_store (F : Flat R sz f wf) {w : World} {base : Nat} {e : TypeId} {v : Value} {xs : List α} {g cap n k : Nat} {y : α} (h : w.ownsRow base e sz (.slice (some ⟨g, 0, none⟩) n cap) n (rowsOf f xs)) (hk : k < xs.length) :
    (storeRow w g (k * sz) (f y)).ownsRow base e sz (.slice (some ⟨g, 0, none⟩) n cap) n (rowsOf f (xs.set k y)) := by
  have hn : n = xs.length := by
    have := h.1; rw [F.length] at this; exact (Nat.eq_of_mul_eq_mul_right F.pos this).symm
  refine ⟨by rw [F.length, List.length_set, hn], ?_⟩
  rcases h.2 with ⟨hv, _⟩ | ⟨g', cap', cur, hv, h1, h2, h3, h4, h5, h6⟩
  · cases hv
  · obtain ⟨rfl, rfl⟩ : g = g' ∧ cap = cap' := by injection hv with e1 e2 e3; injection e1 with e1; injection e1 with e1; exact ⟨e1, e3⟩
    have hks : k * sz + sz ≤ n * sz := by rw [← Nat.succ_mul]; exact Nat.mul_le_mul_right _ (by omega)
    have hns : n * sz ≤ cap * sz := Nat.mul_le_mul_right _ h3
    obtain ⟨cur', c1, c2, c3⟩ := storeRow_block g (f y) w (k * sz) cur e h2 (by rw [F.len]; omega)
    refine .inr ⟨g, cap, cur', rfl, h1, c1, h3, h4, by rw [c2, h5], ?_⟩
    have ex : xs = xs.take k ++ [xs[k]] ++ xs.drop (k + 1) := by simp [List.take_append_drop]
    have ey : xs.set k y = xs.take k ++ [y] ++ xs.drop (k + 1) := by
      rw [List.set_eq_take_append_cons_drop, if_pos hk]; simp
    have e0 : rowsOf f xs = rowsOf f (xs.take k) ++ f xs[k] ++ rowsOf f (xs.drop (k + 1)) := by
      conv => lhs; rw [ex]
      rw [rowsOf_append, rowsOf_append, rowsOf_one]
    rw [ey, rowsOf_append, rowsOf_append, rowsOf_one, c3]
    have l1 : (rowsOf f (xs.take k)).length = k * sz := by rw [F.length, List.length_take, Nat.min_eq_left (by omega)]
    have hlc : cur.toList.length = cap * sz := by simp [h5]
    have t1 : cur.toList.take (k * sz) = rowsOf f (xs.take k) := by
      have := congrArg (List.take (k * sz)) h6
      rw [List.take_take, Nat.min_eq_left (by omega), e0, List.append_assoc, List.take_append_of_le_length (by omega), List.take_of_length_le (l := rowsOf f (xs.take k)) (by omega)] at this
      exact this
    have d0 : List.drop (k * sz + sz) (rowsOf f (xs.take k) ++ f xs[k]) = [] := List.drop_of_length_le (by rw [List.length_append, l1, F.len]; omega)
    have t2 : (cur.toList.drop (k * sz + sz)).take (n * sz - (k * sz + sz)) = rowsOf f (xs.drop (k + 1)) := by
      have := congrArg (List.drop (k * sz + sz)) h6
      rw [List.drop_take, e0, List.drop_append_of_le_length (by rw [List.length_append, l1, F.len]; omega), d0, List.nil_append] at this
      exact this
    rw [F.len, t1, ← t2]
    rw [List.take_append, List.take_of_length_le (by rw [List.length_append, l1, F.len]; omega)]
    congr 1
    rw [List.length_append, l1, F.len]
end

/-! ### append of a whole slice -/
section
variable {α : Type} {R : Reading α} {size : Nat} {f : α → List Value} {wf : α → Prop} {P : Program} (w : World)
theorem run_append_sl (F : Flat R size f wf) (t ty : TypeId) (base : Nat) (e : TypeId) (i : TypeInfo) (z : Value) (bytes : Nat) (ht : P.underlying t = some (.slice e)) (hi : P.info? e = some i) (hz : i.zero = some z)
    (hsize : i.size = size) (hby : i.bytes = bytes) (hzs : z.cells.size = size)
    (g0 c0 n : Nat) (xs : List Value) (hown : w.ownsRow base e size (.slice (some ⟨g0, 0, none⟩) n c0) n xs)
    (lo : Nat) (u : Value) (ys : List α) (hu : Sl R size lo w u ys)
    (h63 : n + ys.length ≤ maxLen) (hbytes : (n + ys.length) * bytes ≤ 140737488355328) (hbase : base ≤ w.heap.size) :
    ∃ g cap w', (Builtin.append_ #[t, t] ty #[.slice (some ⟨g0, 0, none⟩) n c0, u]).run P w = .ok (.slice (some ⟨g, 0, none⟩) (n + ys.length) cap) w' ∧
      w'.ownsRow base e size (.slice (some ⟨g, 0, none⟩) (n + ys.length) cap) (n + ys.length) (xs ++ rowsOf f ys) ∧ w.grownBy w' (some g0) ∧ (g = g0 ∨ g = w.heap.size) := by
  obtain ⟨a, c, rfl, l1, m1, hh⟩ := hu
  by_cases h0 : 0 < ys.length
  · obtain ⟨b, off, _, hbs, rfl, hrow⟩ := F.cells hh h0
    obtain ⟨g, cap, w', h1, h2, h3, h4, h5⟩ := run_append_lies (P := P) w t ty base e i z size bytes ht hi hz hsize hby hzs F.pos (.slice (some ⟨g0, 0, none⟩) n c0) n xs hown ⟨b, off, none⟩ ys.length c (rowsOf f ys) (F.length ys) (fun j u hj => by
      have hadd : (⟨b, off, none⟩ : Addr).add j = ⟨b, off + j, none⟩ := by unfold Addr.add; split <;> simp_all
      rw [hadd]; exact hrow j u hj) (F.ones ys) h0 h63 hbytes hbase _ rfl
    refine ⟨g, cap, w', h1, h2, h3, ?_⟩
    rcases h4 with h4 | h4
    · exact .inl (by simpa [Value.ownBlock] using h4.symm)
    · exact .inr h4
  · have e0 : ys = [] := List.length_eq_zero_iff.1 (by omega)
    subst e0
    have hs : Src P i.size t (.slice a 0 c) 0 [] w := by
      cases a with
      | none => exact Src.ofNil w ht c
      | some a => exact Src.ofSlice w ht a 0 c [] (by simp) (fun j u h => by simp at h) (fun u h => by simp at h)
    have hn : n ≤ c0 := by
      rcases hown.2 with ⟨hv, _⟩ | ⟨g', cap', cur, hv, h1, h2, h3, _⟩
      · cases hv
      · injection hv with e1 e2 e3; omega
    have hr := run_append_room_src (P := P) w t t ty e i ht hi g0 0 n c0 (.slice a 0 c) 0 [] hs (by omega) (fun j h => by simp at h) (fun j h => by simp at h)
    refine ⟨g0, c0, w, by simpa [World.setCells] using hr, by simpa [rowsOf] using hown, ⟨rfl, rfl, rfl, Nat.le_refl _, fun _ _ _ => rfl⟩, .inl rfl⟩

theorem wp_append_sl (F : Flat R size f wf) {o : Oper} {a : Act} {K : Act → World → Prop} {Q : Exit → Act → World → Prop} (s x : Operand) (t : TypeId)
    (ho : o.op = .call { callee := .builtin .append, args := #[s, x], argTypes := #[t, t] })
    (base : Nat) (e : TypeId) (i : TypeInfo) (z : Value) (bytes : Nat) (ht : P.underlying t = some (.slice e)) (hi : P.info? e = some i) (hz : i.zero = some z)
    (hsize : i.size = size) (hby : i.bytes = bytes) (hzs : z.cells.size = size)
    (g0 c0 n : Nat) (xs : List Value) (hs : a.eval s = .slice (some ⟨g0, 0, none⟩) n c0) (hown : w.ownsRow base e size (.slice (some ⟨g0, 0, none⟩) n c0) n xs)
    (lo : Nat) (u : Value) (ys : List α) (hx : a.eval x = u) (hu : Sl R size lo w u ys)
    (h63 : n + ys.length ≤ maxLen) (hbytes : (n + ys.length) * bytes ≤ 140737488355328) (hbase : base ≤ w.heap.size)
    (h : ∀ g cap w', w'.ownsRow base e size (.slice (some ⟨g, 0, none⟩) (n + ys.length) cap) (n + ys.length) (xs ++ rowsOf f ys) → w.grownBy w' (some g0) → (g = g0 ∨ g = w.heap.size) → K (a.put o.dst (.slice (some ⟨g, 0, none⟩) (n + ys.length) cap)) w') : o.wp P a w K Q := by
  obtain ⟨g, cap, w', hr, h2, h3, h4⟩ := run_append_sl (P := P) w F t o.type base e i z bytes ht hi hz hsize hby hzs g0 c0 n xs hown lo u ys hu h63 hbytes hbase
  unfold Oper.wp execOp
  simp only [ho, resolve, invoke, builtin, Sem.run_bind, Sem.run_pure, Result.andThen_ok, List.map_toArray, List.map_cons, List.map_nil, hs, hx, hr]
  exact h g cap w' h2 h3 h4

theorem wpList_append_sl (F : Flat R size f wf) {ops : Array Oper} {rest : List Oper} {o : Oper} {a : Act} {Q : Exit → Act → World → Prop} (hgd : o.guard = none) (s x : Operand) (t : TypeId)
    (ho : o.op = .call { callee := .builtin .append, args := #[s, x], argTypes := #[t, t] })
    (base : Nat) (e : TypeId) (i : TypeInfo) (z : Value) (bytes : Nat) (ht : P.underlying t = some (.slice e)) (hi : P.info? e = some i) (hz : i.zero = some z)
    (hsize : i.size = size) (hby : i.bytes = bytes) (hzs : z.cells.size = size)
    (g0 c0 n : Nat) (xs : List Value) (hs : a.eval s = .slice (some ⟨g0, 0, none⟩) n c0) (hown : w.ownsRow base e size (.slice (some ⟨g0, 0, none⟩) n c0) n xs)
    (lo : Nat) (u : Value) (ys : List α) (hx : a.eval x = u) (hu : Sl R size lo w u ys)
    (h63 : n + ys.length ≤ maxLen) (hbytes : (n + ys.length) * bytes ≤ 140737488355328) (hbase : base ≤ w.heap.size)
    (h : ∀ g cap w', w'.ownsRow base e size (.slice (some ⟨g, 0, none⟩) (n + ys.length) cap) (n + ys.length) (xs ++ rowsOf f ys) → w.grownBy w' (some g0) → (g = g0 ∨ g = w.heap.size) → wpList P ops Q rest (a.put o.dst (.slice (some ⟨g, 0, none⟩) (n + ys.length) cap)) w') : wpList P ops Q (o :: rest) a w :=
  wpList_plain hgd fun _ hK => wp_append_sl w F s x t ho base e i z bytes ht hi hz hsize hby hzs g0 c0 n xs hs hown lo u ys hx hu h63 hbytes hbase fun g cap w' h2 h3 h4 => hK _ _ (h g cap w' h2 h3 h4)

end

theorem own_empty_at {W : World} {base : Nat} {e : TypeId} {size g : Nat} (h : W.heap[g]? = some (.cells #[] e (0, 0))) (hb : base ≤ g) : W.ownsRow base e size (.slice (some ⟨g, 0, none⟩) 0 0) 0 [] :=
  ⟨by simp, .inr ⟨g, 0, #[], rfl, hb, h, Nat.le_refl _, Nat.zero_le _, by simp, by simp⟩⟩

/-! ### Boxes that may be written -/
theorem Wr.box (w : World) (cs : Array Value) (t : TypeId) : Wr (w.alloc (.cells cs t)) w.heap.size 0 cs.size := fun j hj => by
  refine ⟨cs[j], ?_, ?_⟩
  · rw [Nat.zero_add, Go.Proofs.YtaimekaagmcmnaaGreat.cell_alloc_new', Array.getElem?_eq_getElem hj]
  · have h := heap_alloc_new w (.cells cs t)
    unfold World.frozen?
    dsimp only
    rw [h]
    simp
theorem Wr.frz {w : World} {b N : Nat} (h : Wr w b 0 N) (j : Nat) (hj : j < N) : w.frozen? ⟨b, j, none⟩ = false := by
  obtain ⟨c, _, h2⟩ := h j hj
  rwa [Nat.zero_add] at h2
/-! ### The flat elements -/
def intRow (n : Int) : List Value := [.int .i64 n]
def strRow (s : ByteArray) : List Value := [.string s]
theorem flatInt : Flat IntR 1 intRow I64 := ⟨fun h => h, fun h _ _ => ⟨rfl, h⟩, fun _ => rfl, fun _ u hu => by simp [intRow] at hu; subst hu; rfl, by decide⟩
theorem flatStr : Flat StrR 1 strRow StrOk := ⟨fun h => h, fun h _ _ => ⟨rfl, h⟩, fun _ => rfl, fun _ u hu => by simp [strRow] at hu; subst hu; rfl, by decide⟩
end Go.Proofs.YtaimekaagmcmnaaGreat

/- A slice that the call makes and fills element by element. No program is named here. -/
namespace Go.Proofs.YtaimekaagmcmnaaGreat
open Go.RowKit
set_option linter.unusedVariables false
set_option linter.unusedSimpArgs false

theorem kept_storeRow {a : World} (g : Nat) : ∀ (r : List Value) {w : World} (off : Nat), Kept (· = g) a w → Kept (· = g) a (storeRow w g off r)
  | [], _, _, h => h
  | c :: r, w, off, h => kept_storeRow g r (off + 1) (h.set (p := ⟨g, off, none⟩) rfl c)
theorem own_store_cells {w : World} {base : Nat} {e : TypeId} {sz g cap n off : Nat} {cs r : List Value} (h : w.ownsRow base e sz (.slice (some ⟨g, 0, none⟩) n cap) n cs) (ho : off + r.length ≤ n * sz) :
    (storeRow w g off r).ownsRow base e sz (.slice (some ⟨g, 0, none⟩) n cap) n (cs.take off ++ r ++ cs.drop (off + r.length)) := by
  have hl := h.1
  refine ⟨by simp [hl]; omega, ?_⟩
  rcases h.2 with ⟨hv, _⟩ | ⟨g', cap', cur, hv, h1, h2, h3, h4, h5, h6⟩
  · cases hv
  · obtain ⟨rfl, rfl⟩ : g = g' ∧ cap = cap' := by injection hv with e1 e2 e3; injection e1 with e1; injection e1 with e1; exact ⟨e1, e3⟩
    have hns : n * sz ≤ cap * sz := Nat.mul_le_mul_right _ h3
    obtain ⟨cur', c1, c2, c3⟩ := storeRow_block g r w off cur e h2 (by omega)
    refine .inr ⟨g, cap, cur', rfl, h1, c1, h3, h4, by rw [c2, h5], ?_⟩
    have hlc : cur.toList.length = cap * sz := by simp [h5]
    rw [c3, ← h6]
    rw [List.take_take, Nat.min_eq_left (by omega), List.drop_take]
    rw [List.take_append, List.take_of_length_le (by simp; omega)]
    congr 2
    simp; omega

def OwnFill {α : Type} (e : TypeId) (sz : Nat) (f : α → List Value) (lo : Nat) (w : World) (g n k : Nat) (x : List α) : Prop :=
  ∃ cs, w.ownsRow lo e sz (.slice (some ⟨g, 0, none⟩) n n) n cs ∧ cs.take (k * sz) = rowsOf f (x.take k)
section
variable {α : Type} {R : Reading α} {sz : Nat} {f : α → List Value} {wf : α → Prop} {e : TypeId} {lo g n k : Nat} {w w' : World} {x : List α}
theorem OwnFill.made {cs : List Value} (h : w.ownsRow lo e sz (.slice (some ⟨g, 0, none⟩) n n) n cs) (x : List α) : OwnFill e sz f lo w g n 0 x := ⟨cs, h, by simp [rowsOf]⟩
theorem OwnFill.below (h : OwnFill e sz f lo w g n k x) (hb : Below w.heap.size w w') : OwnFill e sz f lo w' g n k x := ⟨h.choose, own_below h.choose_spec.1 hb, h.choose_spec.2⟩
theorem OwnFill.arr (h : OwnFill e sz f lo w g n k x) (hn : 0 < n) : g < w.heap.size ∧ lo ≤ g ∧ Arr w g (n * sz) := by
  obtain ⟨cs, h, _⟩ := h
  obtain ⟨g', cap, hv, h1, h2, _, _, _, h3⟩ := own_cells h hn
  obtain rfl : g = g' := by injection hv with e1 e2 e3; injection e1 with e1; injection e1
  exact ⟨h2, h1, fun j hj => by simpa using h3 j hj⟩
theorem OwnFill.step (F : Flat R sz f wf) (h : OwnFill e sz f lo w g n k x) (hk : k < n) {p : α} {off : Nat} (ho : off = k * sz) (hx : x[k]? = some p) : OwnFill e sz f lo (storeRow w g off (f p)) g n (k + 1) x := by
  subst ho
  obtain ⟨cs, h, he⟩ := h
  have hks : k * sz + sz ≤ n * sz := by rw [← Nat.succ_mul]; exact Nat.mul_le_mul_right _ hk
  refine ⟨_, own_store_cells h (by rw [F.len]; exact hks), ?_⟩
  rw [take_snoc' hx, rowsOf_append, rowsOf_one, ← he]
  have hl := h.1
  have hA : (cs.take (k * sz) ++ f p).length = (k + 1) * sz := by rw [List.length_append, List.length_take, hl, F.len, Nat.succ_mul]; omega
  rw [List.take_append_of_le_length (by omega), List.take_of_length_le (by omega)]
theorem OwnFill.full (F : Flat R sz f wf) (h : OwnFill e sz f lo w g n n x) (hn : n = x.length) (hwf : ∀ p ∈ x, wf p) : OwnF e sz f wf lo w (.slice (some ⟨g, 0, none⟩) n n) x := by
  subst hn
  obtain ⟨cs, h, he⟩ := h
  rw [List.take_of_length_le (by rw [h.1]; exact Nat.le_refl _), List.take_of_length_le (Nat.le_refl _)] at he
  subst he
  exact ⟨h, hwf⟩
end
theorem OwnF.set_other {α : Type} {sz : Nat} {f : α → List Value} {wf : α → Prop} {e : TypeId} {lo : Nat} {w : World} {v : Value} {xs : List α} (h : OwnF e sz f wf lo w v xs) {p : Addr} (hp : ∀ g, v.ownBlock = some g → g ≠ p.block) (u : Value) : OwnF e sz f wf lo (w.setCell p u) v xs :=
  h.kept (S := (· = p.block)) (Kept.set (S := (· = p.block)) (Kept.refl _ _) rfl _) hp

theorem Wr.kept {S : Nat → Prop} {w w' : World} {b off N : Nat} (h : Wr w b off N) (hk : Kept S w w') (hS : ¬ S b) : Wr w' b off N := fun j hj =>
  let ⟨c, h1, h2⟩ := h j hj
  have hb := hk b (World.block_lt_of_cell? w _ h1) hS
  ⟨c, (World.cell?_of_block (w := w) (a := ⟨b, off + j, none⟩) hb).trans h1, (World.frozen?_of_block (w := w) (a := ⟨b, off + j, none⟩) hb).trans h2⟩
theorem RowAt.kept {S : Nat → Prop} {w w' : World} {b off : Nat} {r : List Value} (h : RowAt w b off r) (hk : Kept S w w') (hS : ¬ S b) : RowAt w' b off r := fun j c hc => by
  rw [World.cell?_of_block (w := w) (a := ⟨b, off + j, none⟩) (hk b (World.block_lt_of_cell? w _ (h j c hc)) hS)]
  exact h j c hc

end Go.Proofs.YtaimekaagmcmnaaGreat

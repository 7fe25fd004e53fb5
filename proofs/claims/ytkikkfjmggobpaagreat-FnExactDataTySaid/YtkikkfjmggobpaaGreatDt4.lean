/- Parts of the proof, merged: Fill, Foot. -/
import Derived.Test.YtkikkfjmggobpaaGreatDt3
namespace Go.Proofs.YtkikkfjmggobpaaGreat
open Go.RowKit
set_option linter.unusedVariables false
set_option linter.unusedSimpArgs false
theorem kept_storeRow {a:World} (g:Nat):∀ (r:List Value) {w:World} (off:Nat),Kept (· = g) a w->Kept (· = g) a (storeRow w g off r)
 |[],_,_,h=>h
 |c :: r,w,off,h=>kept_storeRow g r (off+1) (h.set (p:=⟨g,off,none⟩) rfl c)
theorem own_store_cells {w:World} {base:Nat} {e:TypeId} {sz g cap n off:Nat} {cs r:List Value} (h:w.ownsRow base e sz (.slice (some ⟨g,0,none⟩) n cap) n cs) (ho:off+r.length<=n*sz) :
  (storeRow w g off r).ownsRow base e sz (.slice (some ⟨g,0,none⟩) n cap) n (cs.take off++r++cs.drop (off+r.length)):=by
 have hl:=h.1
 refine⟨by simp[hl];omega,?_⟩
 rcases h.2 with⟨hv,_⟩|⟨g',cap',cur,hv,h1,h2,h3,h4,h5,h6⟩
 ·cases hv
 ·obtain⟨rfl,rfl⟩ : g=g'/\cap=cap':=by injection hv with e1 e2 e3;injection e1 with e1;injection e1 with e1;exact⟨e1,e3⟩
  have hns:n*sz<=cap*sz:=Nat.mul_le_mul_right _ h3
  obtain⟨cur',c1,c2,c3⟩:=storeRow_block g r w off cur e h2 (by omega)
  refine .inr ⟨g,cap,cur',rfl,h1,c1,h3,h4,by rw[c2,h5],?_⟩
  have hlc:cur.toList.length=cap*sz:=by simp[h5]
  rw[c3,<- h6]
  rw[List.take_take,Nat.min_eq_left (by omega),List.drop_take]
  rw[List.take_append,List.take_of_length_le (by simp;omega)]
  congr 2
  simp;omega
def OwnFill {α:Type} (e:TypeId) (sz:Nat) (f:α->List Value) (lo:Nat) (w:World) (g n k:Nat) (x:List α):Prop:=
 ∃cs,w.ownsRow lo e sz (.slice (some ⟨g,0,none⟩) n n) n cs/\cs.take (k*sz)=rowsOf f (x.take k)
section
variable {α:Type} {R:Reading α} {sz:Nat} {f:α->List Value} {wf:α->Prop} {e:TypeId} {lo g n k:Nat} {w w' : World} {x:List α}
theorem OwnFill.made {cs:List Value} (h:w.ownsRow lo e sz (.slice (some ⟨g,0,none⟩) n n) n cs) (x:List α):OwnFill e sz f lo w g n 0 x:=⟨cs,h,by simp[rowsOf]⟩
theorem OwnFill.below (h:OwnFill e sz f lo w g n k x) (hb:Below w.heap.size w w'):OwnFill e sz f lo w' g n k x:=⟨h.choose,own_below h.choose_spec.1 hb,h.choose_spec.2⟩
theorem OwnFill.arr (h:OwnFill e sz f lo w g n k x) (hn:0<n):g<w.heap.size/\lo<=g/\Arr w g (n*sz):=by
 obtain⟨cs,h,_⟩:=h
 obtain⟨g',cap,hv,h1,h2,_,_,_,h3⟩:=own_cells h hn
 obtain rfl:g=g':=by injection hv with e1 e2 e3;injection e1 with e1;injection e1
 exact⟨h2,h1,fun j hj=>by simpa using h3 j hj⟩
theorem OwnFill.step (F:Flat R sz f wf) (h:OwnFill e sz f lo w g n k x) (hk:k<n) {p:α} {off:Nat} (ho:off=k*sz) (hx:x[k]? = some p):OwnFill e sz f lo (storeRow w g off (f p)) g n (k+1) x:=by
 subst ho
 obtain⟨cs,h,he⟩:=h
 have hks:k*sz+sz<=n*sz:=by rw[<- Nat.succ_mul];exact Nat.mul_le_mul_right _ hk
 refine⟨_,own_store_cells h (by rw[F.len];exact hks),?_⟩
 rw[take_snoc' hx,rowsOf_append,rowsOf_one,<- he]
 have hl:=h.1
 have hA:(cs.take (k*sz)++f p).length=(k+1)*sz:=by rw[List.length_append,List.length_take,hl,F.len,Nat.succ_mul];omega
 rw[List.take_append_of_le_length (by omega),List.take_of_length_le (by omega)]
theorem OwnFill.full (F:Flat R sz f wf) (h:OwnFill e sz f lo w g n n x) (hn:n=x.length) (hwf:∀p∈x,wf p):OwnF e sz f wf lo w (.slice (some ⟨g,0,none⟩) n n) x:=by
 subst hn
 obtain⟨cs,h,he⟩:=h
 rw[List.take_of_length_le (by rw[h.1];exact Nat.le_refl _),List.take_of_length_le (Nat.le_refl _)]at he
 subst he
 exact⟨h,hwf⟩
end
theorem OwnF.set_other {α:Type} {sz:Nat} {f:α->List Value} {wf:α->Prop} {e:TypeId} {lo:Nat} {w:World} {v:Value} {xs:List α} (h:OwnF e sz f wf lo w v xs) {p:Addr} (hp:∀g,v.ownBlock=some g->g≠p.block) (u:Value):OwnF e sz f wf lo (w.setCell p u) v xs:=
 h.kept (S:=(· = p.block)) (Kept.set (S:=(· = p.block)) (Kept.refl _ _) rfl _) hp
theorem Wr.kept {S:Nat->Prop} {w w' : World} {b off N:Nat} (h:Wr w b off N) (hk:Kept S w w') (hS : ¬ S b):Wr w' b off N:=fun j hj=>
 let ⟨c,h1,h2⟩:=h j hj
 have hb:=hk b (World.block_lt_of_cell? w _ h1) hS
 ⟨c,(World.cell?_of_block (w:=w) (a:=⟨b,off+j,none⟩) hb).trans h1,(World.frozen?_of_block (w:=w) (a:=⟨b,off+j,none⟩) hb).trans h2⟩
theorem RowAt.kept {S:Nat->Prop} {w w' : World} {b off:Nat} {r:List Value} (h:RowAt w b off r) (hk:Kept S w w') (hS : ¬ S b):RowAt w' b off r:=fun j c hc=>by
 rw[World.cell?_of_block (w:=w) (a:=⟨b,off+j,none⟩) (hk b (World.block_lt_of_cell? w _ (h j c hc)) hS)]
 exact h j c hc
abbrev FootR (α:Type):=List Nat->World->List Value->α->Prop
structure FootOk {α:Type} (O:FootR α) (R:Reading α):Prop where
 loc:∀ {bs w w' r x},O bs w r x->(∀b∈bs,w'.heap[b]? = w.heap[b]?)->O bs w' r x
 lt:∀ {bs w r x},O bs w r x->∀b∈bs,b<w.heap.size
 read:∀ {bs w r x lo},O bs w r x->(∀b∈bs,lo<=b)->R lo w r x
section
variable {α:Type} {O:FootR α} {R:Reading α} {sz:Nat} {e:TypeId} {lo:Nat} {w w' : World} {v:Value} {bs:List Nat} {ps:List (List Nat)} {rows:List (List Value)} {xs:List α} {S:Nat->Prop}
theorem FootOk.kept (F:FootOk O R) {r:List Value} {x:α} (h:O bs w r x) (hk:Kept S w w') (hS:∀b∈bs,¬ S b):O bs w' r x:=F.loc h fun b hb=>hk b (F.lt h b hb) (hS b hb)
theorem FootOk.below (F:FootOk O R) {r:List Value} {x:α} (h:O bs w r x) (hb:Below w.heap.size w w'):O bs w' r x:=F.loc h fun b hb'=>hb.block b (F.lt h b hb')
theorem own_same {base:Nat} {n size:Nat} {cs:List Value} (h:w.ownsRow base e size v n cs) (hs:∀g,v.ownBlock=some g->w'.heap[g]? = w.heap[g]?):w'.ownsRow base e size v n cs:=by
 refine⟨h.1,?_⟩
 rcases h.2 with h0|⟨g,cap,cur,hv,h1,h2,h3⟩
 ·exact .inl h0
 ·exact .inr ⟨g,cap,cur,hv,h1,by rw[hs g (by rw[hv];rfl)];exact h2,h3⟩
theorem own_set {base g cap n off:Nat} {cs:List Value} (h:w.ownsRow base e sz (.slice (some ⟨g,0,none⟩) n cap) n cs) (ho:off<n*sz) (u:Value) :
  (w.setCell ⟨g,off,none⟩ u).ownsRow base e sz (.slice (some ⟨g,0,none⟩) n cap) n (cs.set off u):=by
 have h1:=own_store_cells (off:=off) (r:=[u]) h (by simp only[List.length_singleton];omega)
 have hl:=h.1
 have h2:cs.take off ++ [u] ++ cs.drop (off+1)=cs.take off++u :: cs.drop (off+1):=by simp
 rw[List.set_eq_take_append_cons_drop,if_pos (by omega),<- h2]
 exact h1
/-! ### Rows of sz cells, one behind the other -/
theorem flat_get:∀ {rows:List (List Value)},(∀r∈rows,r.length=sz)->∀ {i t:Nat} {r:List Value} {c:Value},rows[i]? = some r->r[t]? = some c->rows.flatten[i*sz+t]? = some c
 |[],_,i,t,r,c,h,_=>by simp at h
 |q :: rows,hl,0,t,r,c,h,hj=>by
  obtain rfl:q=r:=by simpa using h
  rw[List.flatten_cons,Nat.zero_mul,Nat.zero_add,List.getElem?_append_left (List.getElem?_eq_some_iff.1 hj).1,hj]
 |q :: rows,hl,i+1,t,r,c,h,hj=>by
  have hq:=hl q (by simp)
  rw[List.flatten_cons,List.getElem?_append_right (by rw[hq,Nat.succ_mul];omega),hq,show(i+1)*sz+t-sz=i*sz+t by rw[Nat.succ_mul];omega]
  exact flat_get (fun x hx=>hl x (by simp[hx])) (by simpa using h) hj
theorem flat_set:∀ {rows:List (List Value)},(∀r∈rows,r.length=sz)->∀ {i t:Nat} {r:List Value} (u:Value),rows[i]? = some r->t<sz->rows.flatten.set (i*sz+t) u=(rows.set i (r.set t u)).flatten
 |[],_,i,t,r,u,h,_=>by simp at h
 |q :: rows,hl,0,t,r,u,h,ht=>by
  obtain rfl:q=r:=by simpa using h
  have hq:=hl q (by simp)
  rw[List.flatten_cons,Nat.zero_mul,Nat.zero_add,List.set_append_left _ _ (by omega),List.set_cons_zero,List.flatten_cons]
 |q :: rows,hl,i+1,t,r,u,h,ht=>by
  have hq:=hl q (by simp)
  rw[List.flatten_cons,List.set_append_right _ _ (by rw[hq,Nat.succ_mul];omega),hq,show(i+1)*sz+t-sz=i*sz+t by rw[Nat.succ_mul];omega,flat_set (fun x hx=>hl x (by simp[hx])) u (by simpa using h) ht,List.set_cons_succ,List.flatten_cons]
structure RowsO (O:FootR α) (sz:Nat) (w:World) (ps:List (List Nat)) (rows:List (List Value)) (xs:List α):Prop where
 lp:ps.length=xs.length
 lr:rows.length=xs.length
 wide:∀r∈rows,r.length=sz
 elt:∀ (i:Nat) p r x,ps[i]? = some p->rows[i]? = some r->xs[i]? = some x->O p w r x
theorem RowsO.nil:RowsO O sz w [] [] []:=⟨rfl,rfl,fun r hr=>(by cases hr),fun i p r x h=>(by simp at h)⟩
theorem RowsO.at (h:RowsO O sz w ps rows xs) {i:Nat} {x:α} (hx:xs[i]? = some x):∃p r,ps[i]? = some p/\rows[i]? = some r/\r.length=sz/\O p w r x:=by
 have hi:=(List.getElem?_eq_some_iff.1 hx).1
 have i1:i<ps.length:=by rw[h.lp];exact hi
 have i2:i<rows.length:=by rw[h.lr];exact hi
 have h1:ps[i]? = some ps[i]:=List.getElem?_eq_getElem i1
 have h2:rows[i]? = some rows[i]:=List.getElem?_eq_getElem i2
 exact⟨_,_,h1,h2,h.wide _ (List.mem_of_getElem? h2),h.elt i _ _ x h1 h2 hx⟩
theorem RowsO.all (h:RowsO O sz w ps rows xs) {P:List Nat->Prop} {p:List Nat} (hp:p∈ps) (f:∀r x,O p w r x->P p):P p:=by
 obtain⟨i,hi,rfl⟩:=List.getElem_of_mem hp
 have i2:i<rows.length:=by rw[h.lr,<- h.lp];exact hi
 have i3:i<xs.length:=by rw[<- h.lp];exact hi
 have h2:rows[i]? = some rows[i]:=List.getElem?_eq_getElem i2
 have h3:xs[i]? = some xs[i]:=List.getElem?_eq_getElem i3
 exact f _ _ (h.elt i _ _ _ (List.getElem?_eq_getElem hi) h2 h3)
theorem RowsO.lt (F:FootOk O R) (h:RowsO O sz w ps rows xs):∀b∈ps.flatten,b<w.heap.size:=fun b hb=>by
 obtain⟨p,hp,hb⟩:=List.mem_flatten.1 hb
 exact h.all (P:=fun p=>∀b∈p,b<w.heap.size) hp (fun r x ho=>F.lt ho) b hb
theorem RowsO.loc (F:FootOk O R) (h:RowsO O sz w ps rows xs) (hs:∀b∈ps.flatten,w'.heap[b]? = w.heap[b]?):RowsO O sz w' ps rows xs:=
 ⟨h.lp,h.lr,h.wide,fun i p r x h1 h2 h3=>F.loc (h.elt i p r x h1 h2 h3) fun b hb=>hs b (List.mem_flatten.2 ⟨p,List.mem_of_getElem? h1,hb⟩)⟩
theorem RowsO.kept (F:FootOk O R) (h:RowsO O sz w ps rows xs) (hk:Kept S w w') (hS:∀b∈ps.flatten,¬ S b):RowsO O sz w' ps rows xs:=h.loc F fun b hb=>hk b (h.lt F b hb) (hS b hb)
theorem RowsO.below (F:FootOk O R) (h:RowsO O sz w ps rows xs) (hb:Below w.heap.size w w'):RowsO O sz w' ps rows xs:=h.loc F fun b hb'=>hb.block b (h.lt F b hb')
theorem RowsO.push (h:RowsO O sz w ps rows xs) {p:List Nat} {r:List Value} {x:α} (hr:r.length=sz) (ho:O p w r x):RowsO O sz w (ps ++ [p]) (rows ++ [r]) (xs ++ [x]):=by
 refine⟨by simp[h.lp],by simp[h.lr],fun y hy=>?_,fun i q s y h1 h2 h3=>?_⟩
 ·rcases List.mem_append.1 hy with h1|h1
  ·exact h.wide y h1
  ·simp at h1;subst h1;exact hr
 ·rcases Nat.lt_trichotomy i xs.length with hi|hi|hi
  ·rw[List.getElem?_append_left (by rw[h.lp];exact hi)]at h1
   rw[List.getElem?_append_left (by rw[h.lr];exact hi)]at h2
   rw[List.getElem?_append_left hi]at h3
   exact h.elt i q s y h1 h2 h3
  ·subst hi
   rw[List.getElem?_append_right (by rw[h.lp];exact Nat.le_refl _),h.lp]at h1
   rw[List.getElem?_append_right (by rw[h.lr];exact Nat.le_refl _),h.lr]at h2
   rw[List.getElem?_append_right (Nat.le_refl _)]at h3
   simp at h1 h2 h3
   subst h1;subst h2;subst h3
   exact ho
  ·rw[List.getElem?_eq_none (by simp;omega)]at h3;cases h3
theorem RowsO.set (F:FootOk O R) (h:RowsO O sz w ps rows xs) {i:Nat} {p:List Nat} {r:List Value} {x:α} (hp:ps[i]? = some p) (hr:r.length=sz) (ho:O p w' r x)
  (hk:Kept (·∈p) w w') (hnd:ps.flatten.Nodup):RowsO O sz w' ps (rows.set i r) (xs.set i x):=by
 refine⟨by simp[h.lp],by simp[h.lr],fun y hy=>?_,fun j q s y h1 h2 h3=>?_⟩
 ·rcases List.mem_or_eq_of_mem_set hy with h1|h1
  ·exact h.wide y h1
  ·rw[h1];exact hr
 ·by_cases e:i=j
  ·subst e
   obtain rfl:p=q:=by rw[hp]at h1;exact Option.some.inj h1
   have hlt:i<xs.length:=by rw[<- h.lp];exact(List.getElem?_eq_some_iff.1 hp).1
   rw[List.getElem?_set_self (by rw[h.lr];exact hlt)]at h2
   rw[List.getElem?_set_self hlt]at h3
   obtain rfl:=Option.some.inj h2
   obtain rfl:=Option.some.inj h3
   exact ho
  ·rw[List.getElem?_set_ne e]at h2 h3
   refine F.kept (h.elt j q s y h1 h2 h3) hk fun b hb hb'=>?_
   have hpw:=List.pairwise_iff_getElem.1 (List.pairwise_flatten.1 hnd).2
   obtain⟨hi,rfl⟩:=List.getElem?_eq_some_iff.1 hp
   obtain⟨hj,rfl⟩:=List.getElem?_eq_some_iff.1 h1
   rcases Nat.lt_or_gt_of_ne e with h4|h4
   ·exact hpw i j hi hj h4 b hb' b hb rfl
   ·exact hpw j i hj hi h4 b hb b hb' rfl
def GrowO (e:TypeId) (sz:Nat) (O:FootR α) (lo:Nat) (w:World) (v:Value) (ps:List (List Nat)) (xs:List α):Prop:=
 ∃rows,w.ownsRow lo e sz v xs.length rows.flatten/\RowsO O sz w ps rows xs
def fpO (v:Value) (ps:List (List Nat)):List Nat:=v.ownBlock.toList++ps.flatten
theorem mem_fpO {b:Nat} : b∈fpO v ps ↔ v.ownBlock=some b\/b∈ps.flatten:=by unfold fpO;simp
theorem GrowO.lt (F:FootOk O R) (h:GrowO e sz O lo w v ps xs):∀b∈fpO v ps,b<w.heap.size:=fun b hb=>by
 obtain⟨rows,h1,h2⟩:=h
 rcases mem_fpO.1 hb with h|h
 ·exact(own_base h1 b h).2
 ·exact h2.lt F b h
theorem GrowO.loc (F:FootOk O R) (h:GrowO e sz O lo w v ps xs) (hs:∀b∈fpO v ps,w'.heap[b]? = w.heap[b]?):GrowO e sz O lo w' v ps xs:=by
 obtain⟨rows,h1,h2⟩:=h
 exact⟨rows,own_same h1 fun g hg=>hs g (mem_fpO.2 (.inl hg)),h2.loc F fun b hb=>hs b (mem_fpO.2 (.inr hb))⟩
theorem GrowO.kept (F:FootOk O R) (h:GrowO e sz O lo w v ps xs) (hk:Kept S w w') (hS:∀b∈fpO v ps,¬ S b):GrowO e sz O lo w' v ps xs:=h.loc F fun b hb=>hk b (h.lt F b hb) (hS b hb)
theorem GrowO.below (F:FootOk O R) (h:GrowO e sz O lo w v ps xs) (hb:Below w.heap.size w w'):GrowO e sz O lo w' v ps xs:=h.loc F fun b hb'=>hb.block b (h.lt F b hb')
theorem GrowO.nil:GrowO e sz O lo w (.slice none 0 0) [] ([] : List α):=⟨[],own_none,RowsO.nil⟩
theorem GrowO.form (h:GrowO e sz O lo w v ps xs):∃a c,v=.slice a xs.length c:=let ⟨_,h1,_⟩:=h;own_form h1
def SlO (e:TypeId) (sz:Nat) (O:FootR α) (bs:List Nat) (w:World) (v:Value) (xs:List α):Prop:=
 (xs=[]/\bs=[]/\∃a c,v=.slice a 0 c/\c<=9223372036854775807)\/∃ps,GrowO e sz O 0 w v ps xs/\bs=fpO v ps
theorem GrowO.slO (h:GrowO e sz O lo w v ps xs):SlO e sz O (fpO v ps) w v xs:=by
 obtain⟨rows,h1,h2⟩:=h
 exact .inr ⟨ps,⟨rows,own_lo h1 (Nat.zero_le _),h2⟩,rfl⟩
theorem SlO.loc (F:FootOk O R) (h:SlO e sz O bs w v xs) (hs:∀b∈bs,w'.heap[b]? = w.heap[b]?):SlO e sz O bs w' v xs:=by
 rcases h with h|⟨ps,h,rfl⟩
 ·exact .inl h
 ·exact .inr ⟨ps,h.loc F hs,rfl⟩
theorem SlO.lt (F:FootOk O R) (h:SlO e sz O bs w v xs):∀b∈bs,b<w.heap.size:=by
 rcases h with⟨_,rfl,_⟩|⟨ps,h,rfl⟩
 ·intro b hb;cases hb
 ·exact h.lt F
theorem SlO.kept (F:FootOk O R) (h:SlO e sz O bs w v xs) (hk:Kept S w w') (hS:∀b∈bs,¬ S b):SlO e sz O bs w' v xs:=h.loc F fun b hb=>hk b (h.lt F b hb) (hS b hb)
theorem SlO.below (F:FootOk O R) (h:SlO e sz O bs w v xs) (hb:Below w.heap.size w w'):SlO e sz O bs w' v xs:=h.loc F fun b hb'=>hb.block b (h.lt F b hb')
theorem SlO.form (h:SlO e sz O bs w v xs):∃a c,v=.slice a xs.length c:=by
 rcases h with⟨rfl,_,a,c,rfl,_⟩|⟨ps,h,rfl⟩
 ·exact⟨a,c,rfl⟩
 ·exact h.form
theorem SlO.sl (F:FootOk O R) (h:SlO e sz O bs w v xs) (hlo:∀b∈bs,lo<=b):Sl R sz lo w v xs:=by
 rcases h with⟨rfl,_,a,c,rfl,hc⟩|⟨ps,⟨rows,h1,h2⟩,rfl⟩
 ·exact⟨a,c,rfl,Nat.zero_le _,hc,fun h=>absurd h (by simp)⟩
 ·by_cases h0:0<xs.length
  ·obtain⟨g,cap,rfl,h3,h4,h5,h6,h7,h8⟩:=own_cells h1 h0
   refine⟨_,cap,rfl,h5,h6,fun _=>⟨g,0,hlo g (mem_fpO.2 (.inl rfl)),rfl,fun i x hx=>?_⟩⟩
   obtain⟨p,r,hp,hr,hl,ho⟩:=h2.at hx
   refine⟨r,F.read ho fun b hb=>hlo b (mem_fpO.2 (.inr (List.mem_flatten.2 ⟨p,List.mem_of_getElem? hp,hb⟩))),fun j c hc=>?_⟩
   have:=h7 _ c (flat_get h2.wide hr hc)
   rwa [<- Nat.add_assoc]at this
  ·have e1:xs=[]:=List.length_eq_zero_iff.1 (by omega)
   subst e1
   rcases h1.2 with⟨rfl,_⟩|⟨g,cap,cur,rfl,_,_,_,h4,_⟩
   ·exact Sl.nil
   ·exact⟨_,cap,rfl,Nat.zero_le _,by unfold maxLen at h4;omega,fun h=>absurd h (by simp)⟩
theorem SlO.nil:SlO e sz O [] w (.slice none 0 0) ([] : List α):=.inl ⟨rfl,rfl,none,0,rfl,by decide⟩
def FlatO (f:α->List Value) (wf:α->Prop):FootR α:=fun bs _ r x=>bs=[]/\r=f x/\wf x
theorem flatO_ok {f:α->List Value} {wf:α->Prop} (F:Flat R sz f wf):FootOk (FlatO f wf) R:=
 ⟨fun h _=>h,fun⟨h,_⟩ b hb=>by(subst h;cases hb),fun⟨_,h1,h2⟩ _=>by subst h1;exact F.back h2 _ _⟩
def FillO (e:TypeId) (sz:Nat) (O:FootR α) (lo:Nat) (w:World) (g n k:Nat) (ps:List (List Nat)) (xs:List α):Prop:=
 ∃rows cs,w.ownsRow lo e sz (.slice (some ⟨g,0,none⟩) n n) n cs/\cs.take (k*sz)=rows.flatten/\RowsO O sz w ps rows (xs.take k)
variable {g n k:Nat}
theorem FillO.made {cs:List Value} (h:w.ownsRow lo e sz (.slice (some ⟨g,0,none⟩) n n) n cs) (xs:List α):FillO e sz O lo w g n 0 [] xs:=⟨[],cs,h,by simp,RowsO.nil⟩
theorem FillO.arr (h:FillO e sz O lo w g n k ps xs) (hn:0<n):g<w.heap.size/\lo<=g/\Arr w g (n*sz):=by
 obtain⟨_,cs,h,_⟩:=h
 obtain⟨g',cap,hv,h1,h2,_,_,_,h3⟩:=own_cells h hn
 obtain rfl:g=g':=by injection hv with e1 e2 e3;injection e1 with e1;injection e1
 exact⟨h2,h1,fun j hj=>by simpa using h3 j hj⟩
theorem FillO.below (F:FootOk O R) (h:FillO e sz O lo w g n k ps xs) (hb:Below w.heap.size w w'):FillO e sz O lo w' g n k ps xs:=by
 obtain⟨rows,cs,h1,h2,h3⟩:=h
 exact⟨rows,cs,own_below h1 hb,h2,h3.below F hb⟩
theorem FillO.step (F:FootOk O R) (h:FillO e sz O lo w g n k ps xs) (hk:k<n) {x:α} {p:List Nat} {r:List Value} {off:Nat} (hof:off=k*sz) (hx:xs[k]? = some x) (hr:r.length=sz) (ho:O p w r x) (hg:g ∉ ps.flatten) (hg2:g ∉ p) :
  FillO e sz O lo (storeRow w g off r) g n (k+1) (ps ++ [p]) xs:=by
 subst hof
 obtain⟨rows,cs,h1,h2,h3⟩:=h
 have hks:k*sz+sz<=n*sz:=by rw[<- Nat.succ_mul];exact Nat.mul_le_mul_right _ hk
 have hK:Kept (· = g) w (storeRow w g (k*sz) r):=kept_storeRow g r (k*sz) (Kept.refl _ _)
 refine⟨rows ++ [r],_,own_store_cells h1 (by rw[hr];exact hks),?_,?_⟩
 ·rw[List.flatten_append,List.flatten_singleton,<- h2]
  have hl:=h1.1
  have hA:(cs.take (k*sz)++r).length=(k+1)*sz:=by rw[List.length_append,List.length_take,hl,hr,Nat.succ_mul];omega
  rw[List.take_append_of_le_length (by omega),List.take_of_length_le (by omega)]
 ·rw[take_snoc' hx]
  exact(h3.kept F hK (fun b hb e=>hg (e ▸ hb))).push hr (F.kept ho hK fun b hb e=>hg2 (e ▸ hb))
theorem FillO.full (h:FillO e sz O lo w g n n ps xs) (hn:n=xs.length):GrowO e sz O lo w (.slice (some ⟨g,0,none⟩) n n) ps xs:=by
 subst hn
 obtain⟨rows,cs,h1,h2,h3⟩:=h
 rw[List.take_of_length_le (by rw[h1.1];exact Nat.le_refl _)]at h2
 rw[List.take_of_length_le (Nat.le_refl _)]at h3
 subst h2
 exact⟨rows,h1,h3⟩
/-! ### Marks of a list -/
def cntL (cnt:α->Nat) (xs:List α):Nat:=(xs.map cnt).sum
def markL (mk:Nat->α->α) (cnt:α->Nat):Nat->List α->List α
 |_,[]=>[]
 |k,x :: xs=>mk k x :: markL mk cnt (k+cnt x) xs
theorem cntL_take {cnt:α->Nat} {j:Nat} {x:α} (h:xs[j]? = some x):cntL cnt (xs.take (j+1))=cntL cnt (xs.take j)+cnt x:=by
 unfold cntL;rw[take_snoc' h];simp
theorem cntL_le (cnt:α->Nat) (xs:List α) (j:Nat):cntL cnt (xs.take j)<=cntL cnt xs:=by
 have e:cntL cnt xs=cntL cnt (xs.take j)+cntL cnt (xs.drop j):=by
  unfold cntL;rw[<- List.sum_append,<- List.map_append,List.take_append_drop]
 omega
theorem markL_length {mk:Nat->α->α} {cnt:α->Nat} : ∀ (k:Nat) (xs:List α),(markL mk cnt k xs).length=xs.length
 |_,[]=>rfl
 |k,x :: xs=>by rw[markL,List.length_cons,markL_length,List.length_cons]
theorem markL_append {mk:Nat->α->α} {cnt:α->Nat} : ∀ (k:Nat) (xs ys:List α),markL mk cnt k (xs++ys)=markL mk cnt k xs++markL mk cnt (k+cntL cnt xs) ys
 |k,[],ys=>by simp[cntL,markL]
 |k,x :: xs,ys=>by rw[List.cons_append,markL,markL,markL_append,List.cons_append];congr 3;simp[cntL];omega
theorem markL_take {mk:Nat->α->α} {cnt:α->Nat} {k j:Nat} {x:α} (h:xs[j]? = some x):markL mk cnt k (xs.take (j+1))=markL mk cnt k (xs.take j) ++ [mk (k+cntL cnt (xs.take j)) x]:=by
 rw[take_snoc' h,markL_append];rfl
theorem markL_get {mk:Nat->α->α} {cnt:α->Nat} {k j:Nat} {x:α} (h:xs[j]? = some x):(markL mk cnt k xs)[j]? = some (mk (k+cntL cnt (xs.take j)) x):=by
 have hj:=(List.getElem?_eq_some_iff.1 h).1
 have e:xs=xs.take j++x :: xs.drop (j+1):=by
  conv=>lhs;rw[<- List.take_append_drop j xs,List.drop_eq_getElem_cons hj]
  rw[(List.getElem?_eq_some_iff.1 h).2]
 conv=>lhs;rw[e,markL_append]
 have hl:(markL mk cnt k (xs.take j)).length=j:=by rw[markL_length,List.length_take];omega
 rw[List.getElem?_append_right (by omega),hl,Nat.sub_self]
 rfl
def markN (mk:Nat->α->α) (cnt:α->Nat) (k:Nat) (xs:List α) (j:Nat):List α:=markL mk cnt k (xs.take j)++xs.drop j
theorem markN_zero {mk:Nat->α->α} {cnt:α->Nat} (k:Nat) (xs:List α):markN mk cnt k xs 0=xs:=by simp[markN,markL]
theorem markN_all {mk:Nat->α->α} {cnt:α->Nat} (k:Nat) (xs:List α):markN mk cnt k xs xs.length=markL mk cnt k xs:=by simp[markN]
theorem markN_length {mk:Nat->α->α} {cnt:α->Nat} (k:Nat) (xs:List α) (j:Nat):(markN mk cnt k xs j).length=xs.length:=by
 unfold markN;rw[List.length_append,markL_length,List.length_take,List.length_drop];omega
theorem markN_get {mk:Nat->α->α} {cnt:α->Nat} {k j:Nat} {x:α} (h:xs[j]? = some x):(markN mk cnt k xs j)[j]? = some x:=by
 have hj:=(List.getElem?_eq_some_iff.1 h).1
 unfold markN
 rw[List.getElem?_append_right (by rw[markL_length,List.length_take];omega),markL_length,List.length_take,Nat.min_eq_left (by omega),Nat.sub_self,List.getElem?_drop,Nat.add_zero,h]
theorem markN_step {mk:Nat->α->α} {cnt:α->Nat} {k j:Nat} {x:α} (h:xs[j]? = some x):(markN mk cnt k xs j).set j (mk (k+cntL cnt (xs.take j)) x)=markN mk cnt k xs (j+1):=by
 have hj:=(List.getElem?_eq_some_iff.1 h).1
 unfold markN
 rw[markL_take h,List.set_append_right _ _ (by rw[markL_length,List.length_take];omega),markL_length,List.length_take,Nat.min_eq_left (by omega),Nat.sub_self,List.drop_eq_getElem_cons hj,List.set_cons_zero]
 simp
theorem GrowO.mark (F:FootOk O R) {v:Value} {g cap:Nat} (hv:v=.slice (some ⟨g,0,none⟩) n cap) {mk:Nat->α->α} {cnt:α->Nat} {j:Nat} {x:α} {p:List Nat} {r:List Value}
  (h:RowsO O sz w ps rows (markN mk cnt k xs j)) (hx:xs[j]? = some x) (hp:ps[j]? = some p) (hnd:(fpO v ps).Nodup) (hr:r.length=sz) (hn:n=xs.length)
  (hown:w'.ownsRow lo e sz v n (rows.set j r).flatten) (ho:O p w' r (mk (k+cntL cnt (xs.take j)) x)) (hk:Kept (fun b=>b=g\/b∈p) w w') :
  GrowO e sz O lo w' v ps (markN mk cnt k xs (j+1)):=by
 subst hv
 have hfp:fpO (.slice (some ⟨g,0,none⟩) n cap) ps=g :: ps.flatten:=rfl
 rw[hfp,List.nodup_cons]at hnd
 refine⟨rows.set j r,by rw[markN_length,<- hn];exact hown,?_⟩
 have hK:RowsO O sz w' ps (rows.set j r) ((markN mk cnt k xs j).set j (mk (k+cntL cnt (xs.take j)) x)):=by
  refine⟨by simp[h.lp],by simp[h.lr],fun y hy=>?_,fun i q s y h1 h2 h3=>?_⟩
  ·rcases List.mem_or_eq_of_mem_set hy with h1|h1
   ·exact h.wide y h1
   ·rw[h1];exact hr
  ·by_cases e:j=i
   ·subst e
    obtain rfl:p=q:=by rw[hp]at h1;exact Option.some.inj h1
    have hlt:j<(markN mk cnt k xs j).length:=by rw[<- h.lp];exact(List.getElem?_eq_some_iff.1 hp).1
    rw[List.getElem?_set_self (by rw[h.lr];exact hlt)]at h2
    rw[List.getElem?_set_self hlt]at h3
    obtain rfl:=Option.some.inj h2
    obtain rfl:=Option.some.inj h3
    exact ho
   ·rw[List.getElem?_set_ne e]at h2 h3
    refine F.kept (h.elt i q s y h1 h2 h3) hk fun b hb hb'=>?_
    rcases hb' with rfl|hb'
    ·exact hnd.1 (List.mem_flatten.2 ⟨q,List.mem_of_getElem? h1,hb⟩)
    ·have hpw:=List.pairwise_iff_getElem.1 (List.pairwise_flatten.1 hnd.2).2
     obtain⟨hi,rfl⟩:=List.getElem?_eq_some_iff.1 hp
     obtain⟨hj,rfl⟩:=List.getElem?_eq_some_iff.1 h1
     rcases Nat.lt_or_gt_of_ne e with h4|h4
     ·exact hpw j i hi hj h4 b hb' b hb rfl
     ·exact hpw i j hj hi h4 b hb b hb' rfl
 rw[markN_step hx]at hK
 exact hK
/-! ### Within a round: the cells of one row are stored one after the other -/
theorem flat_setj {rows:List (List Value)} (hw:∀r∈rows,r.length=sz) {j t:Nat} (hj:j<rows.length) {r:List Value} (hr:r.length=sz) (ht:t<sz) (u:Value) :
  (rows.set j r).flatten.set (j*sz+t) u=(rows.set j (r.set t u)).flatten:=by
 rw[flat_set (rows:=rows.set j r) (fun q hq=>by rcases List.mem_or_eq_of_mem_set hq with h|h;exact hw q h;rw[h];exact hr) u (List.getElem?_set_self hj) ht,List.set_set]
structure MidO (e:TypeId) (sz lo:Nat) (w:World) (g cap n:Nat) (rows:List (List Value)) (j:Nat) (r:List Value):Prop where
 own:w.ownsRow lo e sz (.slice (some ⟨g,0,none⟩) n cap) n (rows.set j r).flatten
 wide:∀q∈rows,q.length=sz
 lr:rows.length=n
 hj:j<n
 len:r.length=sz
variable {cap j t off:Nat} {r:List Value}
theorem MidO.start (h:w.ownsRow lo e sz (.slice (some ⟨g,0,none⟩) n cap) n rows.flatten) (hw:∀q∈rows,q.length=sz) (hl:rows.length=n) (hr:rows[j]? = some r):MidO e sz lo w g cap n rows j r:=by
 have hj:=(List.getElem?_eq_some_iff.1 hr).1
 have e1:rows.set j r=rows:=by rw[<- (List.getElem?_eq_some_iff.1 hr).2,List.set_getElem_self]
 exact⟨by rw[e1];exact h,hw,hl,by omega,hw r (List.mem_of_getElem? hr)⟩
theorem MidO.below (h:MidO e sz lo w g cap n rows j r) (hb:Below w.heap.size w w'):MidO e sz lo w' g cap n rows j r:=⟨own_below h.own hb,h.wide,h.lr,h.hj,h.len⟩
theorem MidO.kept (h:MidO e sz lo w g cap n rows j r) (hk:Kept S w w') (hS : ¬ S g):MidO e sz lo w' g cap n rows j r:=
 ⟨own_kept h.own hk (fun x hx=>by obtain rfl:g=x:=(by injection hx);exact hS),h.wide,h.lr,h.hj,h.len⟩
theorem MidO.set (h:MidO e sz lo w g cap n rows j r) (ht:t<sz) (ho:off=j*sz+t) (u:Value):MidO e sz lo (w.setCell ⟨g,off,none⟩ u) g cap n rows j (r.set t u):=by
 subst ho
 have hlt:j*sz+t<n*sz:=by
  have:=Nat.mul_le_mul_right sz (show j+1<=n from h.hj)
  rw[Nat.succ_mul]at this;omega
 refine⟨?_,h.wide,h.lr,h.hj,by rw[List.length_set];exact h.len⟩
 rw[<- flat_setj h.wide (by rw[h.lr];exact h.hj) h.len ht u]
 exact own_set h.own hlt u
theorem MidO.cell (h:MidO e sz lo w g cap n rows j r) (ho:off=j*sz+t) {c:Value} (hc:r[t]? = some c):w.cell? ⟨g,off,none⟩=some c/\w.frozen? ⟨g,off,none⟩=false:=by
 subst ho
 have ht:t<sz:=by rw[<- h.len];exact(List.getElem?_eq_some_iff.1 hc).1
 have hlt:j*sz+t<n*sz:=by
  have:=Nat.mul_le_mul_right sz (show j+1<=n from h.hj)
  rw[Nat.succ_mul]at this;omega
 obtain⟨g',cap',hv,h1,h2,h3,h4,h5,h6⟩:=own_cells h.own (by have:=h.hj;omega)
 obtain rfl:g=g':=by injection hv with e1 e2 e3;injection e1 with e1;injection e1
 have h7:=h5 (j*sz+t) c (flat_get (fun q hq=>by rcases List.mem_or_eq_of_mem_set hq with h'|h';exact h.wide q h';rw[h'];exact h.len) (List.getElem?_set_self (by rw[h.lr];exact h.hj)) hc)
 obtain⟨c',h8,h9⟩:=h6 (j*sz+t) hlt
 rw[Nat.zero_add]at h7 h9
 exact⟨h7,h9⟩
theorem MidO.lt (h:MidO e sz lo w g cap n rows j r):g<w.heap.size:=(own_base h.own g rfl).2
theorem fpO_slice:fpO (.slice (some ⟨g,0,none⟩) n cap) ps=g :: ps.flatten:=rfl
theorem kept_imp {S' : Nat->Prop} (h:Kept S w w') (hi:∀q,S q->S' q):Kept S' w w':=fun k h1 h2=>h k h1 fun hs=>h2 (hi k hs)
end
end Go.Proofs.YtkikkfjmggobpaaGreat

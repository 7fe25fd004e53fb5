/- Parts of the proof, merged: Tree, ExR, Flt, GrowData, Dx. -/
import Derived.Deep.RegionHeld3
import Derived.Deep.RegionLaw
import Derived.Test.YtkikkfjmggobpaaGreatDt9
namespace Go.Proofs.YtkikkfjmggobpaaGreat
open Go.RowKit
set_option linter.unusedVariables false
set_option linter.unusedSimpArgs false
inductive PxT where
 |mk (kind n:Int) (s:ByteArray) (kids:List PxT)
def PxT.kind:PxT->Int|.mk k _ _ _=>k
def PxT.n:PxT->Int|.mk _ n _ _=>n
def PxT.s:PxT->ByteArray|.mk _ _ s _=>s
def PxT.kids:PxT->List PxT|.mk _ _ _ ks=>ks
def PxT.wf (t:PxT):Prop:=I64 t.kind/\I64 t.n/\StrOk t.s
def PxR:Nat->(Nat->Prop)->World->Value->PxT->Prop
 |0,_,_,_,_=>False
 |f+1,S,w,v,t=>∃b a cap,v=.pointer (some ⟨b,0,none⟩)/\S b/\t.wf/\RowAt w b 0 [.int .i64 t.kind,.int .i64 t.n,.string t.s,.slice a t.kids.length cap]/\t.kids.length<=cap/\cap<=9223372036854775807/\
   (0<t.kids.length->∃g off,a=some ⟨g,off,none⟩/\S g/\∀i k,t.kids[i]? = some k->∃p,w.cell? ⟨g,off+i,none⟩=some p/\PxR f S w p k)
def Same (S:Nat->Prop) (w w' : World):Prop:=∀b,S b->b<w.heap.size->w'.heap[b]? = w.heap[b]?
theorem Same.cell {S:Nat->Prop} {w w' : World} (h:Same S w w') {b o:Nat} {v:Value} (hS:S b) (hc:w.cell? ⟨b,o,none⟩=some v):w'.cell? ⟨b,o,none⟩=some v:=by
 rw[World.cell?_of_block (w:=w) (a:=⟨b,o,none⟩) (h b hS (World.block_lt_of_cell? w _ hc)),hc]
theorem Same.below {S:Nat->Prop} {w w' : World} (h:Below w.heap.size w w'):Same S w w':=fun b _ hb=>h.block b hb
theorem PxR.to:∀ {f:Nat} {S S' : Nat->Prop} {w w' : World} {v:Value} {t:PxT},PxR f S w v t->Same S w w'->(∀b,S b->b<w.heap.size->S' b)->PxR f S' w' v t
 |0,_,_,_,_,_,_,h,_,_=>h
 |f+1,S,S',w,w',v,t,⟨b,a,cap,hv,hS,hwf,hr,h1,h2,h3⟩,hs,hi=>
  ⟨b,a,cap,hv,hi b hS (World.block_lt_of_cell? w _ (hr 0 _ rfl)),hwf,fun j c hc=>hs.cell hS (hr j c hc),h1,h2,fun h0=>
   let ⟨g,off,ha,hg,hk⟩:=h3 h0
   ⟨g,off,ha,by
    obtain⟨k,hk0⟩ : ∃k,t.kids[0]? = some k:=⟨_,List.getElem?_eq_getElem h0⟩
    obtain⟨p,hp,_⟩:=hk 0 k hk0
    exact hi g hg (World.block_lt_of_cell? w _ hp),fun i k hik=>
     let ⟨p,hp,hR⟩:=hk i k hik
     ⟨p,hs.cell hg hp,hR.to hs hi⟩⟩⟩
theorem PxR.below {f:Nat} {S:Nat->Prop} {w w' : World} {v:Value} {t:PxT} (h:PxR f S w v t) (hb:Below w.heap.size w w'):PxR f S w' v t:=h.to (Same.below hb) fun _ h _=>h
theorem PxR.form {f:Nat} {S:Nat->Prop} {w:World} {v:Value} {t:PxT} (h:PxR f S w v t):∃b,v=.pointer (some ⟨b,0,none⟩):=by
 cases f with
 |zero=>exact absurd h (by simp[PxR])
 |succ f=>obtain⟨b,_,_,hv,_⟩:=h;exact⟨b,hv⟩
def treeOf (l:List GDNode):Nat->Nat->PxT
 |0,_=>.mk 0 0 ByteArray.empty []
 |f+1,i=>match l[i]? with
  |none=>.mk 0 0 ByteArray.empty []
  |some x=>.mk x.kind x.n x.s (x.kids.map fun k=>treeOf l f k.toNat)
theorem treeOf_some {l:List GDNode} {f i:Nat} {x:GDNode} (h:l[i]? = some x):treeOf l (f+1) i=.mk x.kind x.n x.s (x.kids.map fun k=>treeOf l f k.toNat):=by
 conv=>lhs;unfold treeOf
 rw[h]
def Up (l:List GDNode):Prop:=∀ (j:Nat) x,l[j]? = some x->∀k∈x.kids,(j:Int)<k/\k<(l.length:Int)
theorem kidsEnd_up {E:Nat->Int} {L:Int} {P:Nat->Prop} (hE:∀k,0<=E k->(k:Int)+1<=E k/\E k<=L) (hP:∀k,0<=E k->∀j:Nat,k<=j->(j:Int)<E k->P j):∀ (ks:List Int) (nx:Int),0<=nx->0<=kidsEnd E nx ks->
  (∀k∈ks,nx<=k/\k<L)/\∀j:Nat,nx<=j->(j:Int)<kidsEnd E nx ks->P j
 |[],nx,h0,h=>⟨fun k hk=>by simp at hk,fun j h1 h2=>by unfold kidsEnd at h2;omega⟩
 |k :: ks,nx,h0,h=>by
  unfold kidsEnd at h ⊢
  split at h
  ·omega
  ·split at h
   ·omega
   ·rename_i h1 h2
    have e:k=nx:=by omega
    have h3:=hE k.toNat (by omega)
    have h4:=kidsEnd_up hE hP ks (E k.toNat) (by omega) h
    rw[if_neg h1,if_neg h2]
    refine⟨fun k' hk'=>?_,fun j h5 h6=>?_⟩
    ·rcases List.mem_cons.1 hk' with rfl|h7
     ·omega
     ·have:=h4.1 k' h7
      omega
    ·by_cases h7:(j:Int)<E k.toNat
     ·exact hP k.toNat (by omega) j (by omega) h7
     ·exact h4.2 j (by omega) h6
theorem ends_up (l:List GDNode):∀ (f i:Nat),0<=ends l f i->∀j:Nat,i<=j->(j:Int)<ends l f i->∀x,l[j]? = some x->∀k∈x.kids,(j:Int)<k/\k<(l.length:Int)
 |0,i,h=>by simp[ends]at h
 |f+1,i,h=>by
  unfold ends at h ⊢
  cases hi:l[i]? with
  |none=>rw[hi]at h;simp at h
  |some n=>
   rw[hi]at h
   have h1:=kidsEnd_up (ends_range l f) (P:=fun j=>∀x,l[j]? = some x->∀k∈x.kids,(j:Int)<k/\k<(l.length:Int)) (fun k hk j h2 h3=>ends_up l f k hk j h2 h3) n.kids (i+1) (by omega) h
   intro j h2 h3 x hx
   by_cases e:i=j
   ·subst e
    obtain rfl:n=x:=Option.some.inj (hi.symm.trans hx)
    exact fun k hk=>by have:=h1.1 k hk;omega
   ·exact h1.2 j (by omega) h3 x hx
theorem dataOk_up {d:GData} (h:dataOk d=true):Up d.nodes/\0<d.nodes.length/\d.nodes.length<=600:=by
 unfold dataOk at h
 simp only[Bool.and_eq_true,decide_eq_true_eq]at h
 obtain⟨h1,h2,_⟩:=h
 rw[show kidsAt d.nodes=(fun i=>(d.nodes[i]?.map (·.kids)).getD []) from rfl,<- ends_eq]at h2
 refine⟨fun j x hx=>?_,by omega,by omega⟩
 have hj:=(List.getElem?_eq_some_iff.1 hx).1
 exact ends_up d.nodes (d.nodes.length+1) 0 (by omega) j (by omega) (by omega) x hx
theorem conShape_le {s:ByteArray} {k:Int} {pb:Bool} (h:conShape s k pb=true):k<=1:=by
 unfold conShape at h
 split at h
 ·simp at h;omega
 ·split at h
  ·simp at h;omega
  ·simp at h;omega
theorem nodeOk_few {l:List GDNode} {x:GDNode} (h:nodeOk l x=true):x.kids.length<=2:=by
 obtain⟨kd,nn,s,ks⟩:=x
 show ks.length<=2
 rcases nodeOk_kind l kd nn s ks with⟨_,e⟩|⟨_,e⟩|⟨_,e⟩|⟨_,e⟩|⟨_,e⟩|⟨_,_,_,_,_,e⟩
 all_goals rw[h]at e;replace e:=e.symm;(try simp only[Bool.and_eq_true,beq_iff_eq]at e)
 ·omega
 ·omega
 ·omega
 ·have:=conShape_le e.2;omega
 ·omega
 ·cases e
theorem dataOk_few {d:GData} (h:dataOk d=true):∀ (j:Nat) x,d.nodes[j]? = some x->x.kids.length<=2:=by
 unfold dataOk at h
 simp only[Bool.and_eq_true,decide_eq_true_eq,Bool.not_eq_true']at h
 obtain⟨h1,h2,h3⟩:=h
 intro j x hx
 rw[List.any_eq_false]at h3
 have:=h3 x (List.mem_of_getElem? hx)
 exact nodeOk_few (l:=d.nodes) (by simpa using this)
theorem RowAt.of_block {w w' : World} {b o:Nat} {r:List Value} (h:RowAt w b o r) (e:w'.heap[b]? = w.heap[b]?):RowAt w' b o r:=fun j c hc=>
 (World.cell?_of_block (w:=w) (a:=⟨b,o+j,none⟩) e).trans (h j c hc)
theorem RowAt.set3 {w:World} {b:Nat} {a0 a1 a2 a3:Value} (h:RowAt w b 0 [a0,a1,a2,a3]) (u:Value):RowAt (w.setCell ⟨b,3,none⟩ u) b 0 [a0,a1,a2,u]:=by
 obtain⟨h0,h1,h2,h3⟩:=h.box4
 intro j c hc
 match j,hc with
 |0,hc=>simp at hc;subst hc;rw[cell_setCell_ne _ _ _ _ _ (by omega)];exact h0
 |1,hc=>simp at hc;subst hc;rw[cell_setCell_ne _ _ _ _ _ (by omega)];exact h1
 |2,hc=>simp at hc;subst hc;rw[cell_setCell_ne _ _ _ _ _ (by omega)];exact h2
 |3,hc=>simp at hc;subst hc;exact cell_setCell_eq _ _ _ _ h3
 |j+4,hc=>simp at hc
def KidsOwn (w:World) (base:Nat) (T:TypeId) (f:Nat) (vs:List Value) (ts:List PxT) (v:Value):Prop:=
 vs.length=ts.length/\w.ownsRow base T 1 v ts.length vs/\∀ (i:Nat) (p:Value) (t:PxT),vs[i]? = some p->ts[i]? = some t->PxR f (fun b=>base<=b/\v.ownBlock≠some b) w p t
theorem KidsOwn.nil (w:World) (base:Nat) (T:TypeId) (f:Nat):KidsOwn w base T f [] [] (.slice none 0 0):=⟨rfl,own_none,fun i p t (h:([] : List Value)[i]? = some p)=>by simp at h⟩
theorem KidsOwn.below {w w' : World} {base:Nat} {T:TypeId} {f:Nat} {vs:List Value} {ts:List PxT} {v:Value} (h:KidsOwn w base T f vs ts v) (hb:Below w.heap.size w w'):KidsOwn w' base T f vs ts v:=
 ⟨h.1,own_below h.2.1 hb,fun i p t h1 h2=>(h.2.2 i p t h1 h2).below hb⟩
theorem KidsOwn.grow {w w1 w1' w2:World} {base:Nat} {T:TypeId} {f:Nat} {vs:List Value} {ts:List PxT} {v p:Value} {t:PxT} {g n cap:Nat} (h:KidsOwn w base T f vs ts v) (hbase:base<=w.heap.size) (hb:Below w.heap.size w w1) (hb1:Below w1.heap.size w1 w1')
  (hp:PxR f (fun b=>w.heap.size<=b) w1 p t) (hg:w1'.grownBy w2 v.ownBlock) (hown:w2.ownsRow base T 1 (.slice (some ⟨g,0,none⟩) n cap) n (vs ++ [p])) (hn:n=ts.length+1) (hat:v.ownBlock=some g\/g=w1'.heap.size) :
  KidsOwn w2 base T f (vs ++ [p]) (ts ++ [t]) (.slice (some ⟨g,0,none⟩) n cap):=by
 subst hn
 obtain⟨h1,h2,h3⟩:=h
 have ob:=own_base h2
 have hs1:=hb.size
 have hs2:=hb1.size
 refine⟨by simp[h1],by simpa using hown,fun i q u hq hu=>?_⟩
 by_cases e:i=ts.length
 ·subst e
  rw[List.getElem?_append_right (by omega)]at hq hu
  have hq' : p=q:=by simpa [h1] using hq
  have hu' : t=u:=by simpa using hu
  subst hq' hu'
  have hp1:PxR f (fun b=>w.heap.size<=b/\b<w1.heap.size) w1 p t:=hp.to (Same.below (Below.refl _ _)) fun b h4 h5=>⟨h4,h5⟩
  refine(hp1.below hb1).to (fun b h4 h5=>hg.block b h5 fun e=>?_) fun b h4 h5=>⟨by omega,fun e=>?_⟩
  ·have:=(ob b e.symm).2
   omega
  ·obtain rfl:g=b:=by simpa [Value.ownBlock] using e
   rcases hat with h6|h6
   ·have:=(ob g h6).2
    omega
   ·omega
 ·have hi:i<ts.length:=by
   have:=(List.getElem?_eq_some_iff.1 hu).1
   simp at this;omega
  rw[List.getElem?_append_left (by omega)]at hq hu
  have hp1:PxR f (fun b=>(base<=b/\v.ownBlock≠some b)/\b<w.heap.size) w q u:=(h3 i q u hq hu).to (Same.below (Below.refl _ _)) fun b h4 h5=>⟨h4,h5⟩
  refine((hp1.below hb).below hb1).to (fun b h4 h5=>hg.block b h5 fun e=>h4.1.2 e.symm) fun b h4 h5=>⟨h4.1.1,fun e=>?_⟩
  obtain rfl:g=b:=by simpa [Value.ownBlock] using e
  rcases hat with h6|h6
  ·exact h4.1.2 h6
  ·omega
theorem KidsOwn.set {w:World} {base:Nat} {T:TypeId} {f:Nat} {vs:List Value} {ts:List PxT} {v:Value} (h:KidsOwn w base T f vs ts v) {b o:Nat} (hb:b<base) (u:Value):KidsOwn (w.setCell ⟨b,o,none⟩ u) base T f vs ts v:=
 ⟨h.1,own_kept (S:=fun k=>k=b) h.2.1 ((Kept.refl (fun k=>k=b) w).set (p:=⟨b,o,none⟩) rfl u) (fun g hg e=>by have:=(own_base h.2.1 g hg).1;omega),fun i p t h1 h2=>
  (h.2.2 i p t h1 h2).to (fun k hk _=>Below.heap_setCell w ⟨b,o,none⟩ u k (by show k≠b;omega)) fun k hk _=>hk⟩
theorem KidsOwn.form {w:World} {base:Nat} {T:TypeId} {f:Nat} {vs:List Value} {ts:List PxT} {v:Value} (h:KidsOwn w base T f vs ts v):∃a cap,v=.slice a ts.length cap:=by
 rcases h.2.1.2 with⟨rfl,h0⟩|⟨g,cap,cur,rfl,_⟩
 ·exact⟨none,0,by rw[h0]⟩
 ·exact⟨_,cap,rfl⟩
theorem KidsOwn.tree {w:World} {base lo b f:Nat} {T:TypeId} {vs:List Value} {t:PxT} {v:Value} (h:KidsOwn w base T f vs t.kids v) (hl:lo<=b) (hbase:lo<=base) (hwf:t.wf) (hr:RowAt w b 0 [.int .i64 t.kind,.int .i64 t.n,.string t.s,v]) :
  PxR (f+1) (fun b=>lo<=b) w (.pointer (some ⟨b,0,none⟩)) t:=by
 by_cases h0:0<t.kids.length
 ·obtain⟨g,cap,rfl,h1,h2,h3,h4,h5,h6⟩:=own_cells h.2.1 h0
  refine⟨b,_,cap,rfl,hl,hwf,hr,h3,h4,fun _=>⟨g,0,rfl,by omega,fun i k hk=>?_⟩⟩
  have hi:=(List.getElem?_eq_some_iff.1 hk).1
  obtain⟨p,hp⟩ : ∃p,vs[i]? = some p:=⟨_,List.getElem?_eq_getElem (by rw[h.1];exact hi)⟩
  exact⟨p,h5 i p hp,(h.2.2 i p k hp hk).to (Same.below (Below.refl _ _)) fun b h _=>by omega⟩
 ·obtain⟨a,cap,rfl⟩:=h.form
  rcases h.2.1.2 with⟨hv,_⟩|⟨g,cap',cur,hv,_,_,h5,h6,_⟩
  ·injection hv with _ e1 e2
   subst e2
   exact⟨b,a,0,rfl,hl,hwf,hr,by omega,by omega,fun h=>absurd h h0⟩
  ·injection hv with _ e1 e2
   subst e2
   exact⟨b,a,cap,rfl,hl,hwf,hr,h5,by unfold maxLen at h6;omega,fun h=>absurd h h0⟩
end Go.Proofs.YtkikkfjmggobpaaGreat
namespace Go.Proofs.YtkikkfjmggobpaaGreat
open Go.RowKit
set_option maxRecDepth 100000
set_option maxHeartbeats 16000000
set_option linter.unusedVariables false
set_option linter.unusedSimpArgs false
attribute [local go_sem] Ext.cell
def GNode.O:FootR GNode:=fun bs w r x=>∃ (u0:Value) (p0:List Nat) (u1:Value) (p1:List Nat),r=[.int .i64 x.kind,.int .i64 x.at_,.int .i64 x.n,.string x.s,u0,u1]/\bs=p0++p1/\x.wf/\SlO 3 1 (FlatO intRow I64) p0 w u0 x.kids/\SlO 177 1 GPat.O p1 w u1 x.pats
theorem GNode.ok:FootOk GNode.O GNode.R where
 loc:=fun⟨u0,p0,u1,p1,hr,hb,hwf,s0,s1⟩ hs=>⟨u0,p0,u1,p1,hr,hb,hwf,s0.loc (flatO_ok flatInt) (fun b h=>hs b (by rw[hb];simp[h])),s1.loc GPat.ok (fun b h=>hs b (by rw[hb];simp[h]))⟩
 lt:=fun⟨u0,p0,u1,p1,hr,hb,hwf,s0,s1⟩ b h=>by
  rw[hb]at h
  rcases List.mem_append.1 h with h|h
  ·exact s0.lt (flatO_ok flatInt) b h
  ·exact s1.lt GPat.ok b h
 read:=fun⟨u0,p0,u1,p1,hr,hb,hwf,s0,s1⟩ hlo=>⟨u0,u1,hr,hwf,s0.sl (flatO_ok flatInt) (fun b h=>hlo b (by rw[hb];simp[h])),s1.sl GPat.ok (fun b h=>hlo b (by rw[hb];simp[h]))⟩
def PatsSm (l:List GPat):Prop:=l.length<=1048576/\∀q∈l,PatSmall q
theorem PatsSm.nil:PatsSm []:=⟨Nat.zero_le _,fun q h=>by cases h⟩
def ExR:Nat->(Nat->Prop)->World->Value->ExT->Prop
 |0,_,_,_,_=>False
 |f+1,S,w,v,t=>∃b a cap pv bs,v=.pointer (some ⟨b,0,none⟩)/\S b/\t.wf/\PatsSm t.pats/\RowAt w b 0 [.int .i64 t.kind,.int .i64 t.at_,.int .i64 t.n,.string t.s,.slice a t.kids.length cap,pv]/\
   SlO 177 1 GPat.O bs w pv t.pats/\(∀q∈bs,S q)/\t.kids.length<=cap/\cap<=9223372036854775807/\
   (0<t.kids.length->∃g off,a=some ⟨g,off,none⟩/\S g/\∀i k,t.kids[i]? = some k->∃p,w.cell? ⟨g,off+i,none⟩=some p/\ExR f S w p k)
theorem ExR.to:∀ {f:Nat} {S S' : Nat->Prop} {w w' : World} {v:Value} {t:ExT},ExR f S w v t->Same S w w'->(∀b,S b->b<w.heap.size->S' b)->ExR f S' w' v t
 |0,_,_,_,_,_,_,h,_,_=>h
 |f+1,S,S',w,w',v,t,⟨b,a,cap,pv,bs,hv,hS,hwf,hps,hr,hp,hbs,h1,h2,h3⟩,hs,hi=>
  ⟨b,a,cap,pv,bs,hv,hi b hS (World.block_lt_of_cell? w _ (hr 0 _ rfl)),hwf,hps,fun j c hc=>hs.cell hS (hr j c hc),hp.loc GPat.ok (fun q hq=>hs q (hbs q hq) (hp.lt GPat.ok q hq)),fun q hq=>hi q (hbs q hq) (hp.lt GPat.ok q hq),h1,h2,fun h0=>
   let ⟨g,off,ha,hg,hk⟩:=h3 h0
   ⟨g,off,ha,by
    obtain⟨k,hk0⟩ : ∃k,t.kids[0]? = some k:=⟨_,List.getElem?_eq_getElem h0⟩
    obtain⟨p,hp,_⟩:=hk 0 k hk0
    exact hi g hg (World.block_lt_of_cell? w _ hp),fun i k hik=>
     let ⟨p,hp,hR⟩:=hk i k hik
     ⟨p,hs.cell hg hp,hR.to hs hi⟩⟩⟩
theorem ExR.below {f:Nat} {S:Nat->Prop} {w w' : World} {v:Value} {t:ExT} (h:ExR f S w v t) (hb:Below w.heap.size w w'):ExR f S w' v t:=h.to (Same.below hb) fun _ h _=>h
theorem ExR.kept {f:Nat} {S K:Nat->Prop} {w w' : World} {v:Value} {t:ExT} (h:ExR f S w v t) (hk:Kept K w w') (hS:∀b,S b->¬ K b):ExR f S w' v t:=
 h.to (fun b h1 h2=>hk b h2 (hS b h1)) fun _ h _=>h
theorem ExR.form {f:Nat} {S:Nat->Prop} {w:World} {v:Value} {t:ExT} (h:ExR f S w v t):∃b,v=.pointer (some ⟨b,0,none⟩):=by
 cases f with
 |zero=>exact absurd h (by simp[ExR])
 |succ f=>obtain⟨b,_,_,_,_,hv,_⟩:=h;exact⟨b,hv⟩
theorem ExR.up:∀ {f:Nat} {S:Nat->Prop} {w:World} {v:Value} {t:ExT},ExR f S w v t->ExR (f+1) S w v t
 |0,_,_,_,_,h=>absurd h (by simp[ExR])
 |f+1,S,w,v,t,⟨b,a,cap,pv,bs,hv,hS,hwf,hps,hr,hp,hbs,h1,h2,h3⟩=>⟨b,a,cap,pv,bs,hv,hS,hwf,hps,hr,hp,hbs,h1,h2,fun h0=>
   let ⟨g,off,ha,hg,hk⟩:=h3 h0
   ⟨g,off,ha,hg,fun i k hik=>let ⟨p,hp,hR⟩:=hk i k hik;⟨p,hp,hR.up⟩⟩⟩
theorem ExR.mono {f g:Nat} {S:Nat->Prop} {w:World} {v:Value} {t:ExT} (h:ExR f S w v t) (hfg:f<=g):ExR g S w v t:=by
 induction g with
 |zero=>obtain rfl:f=0:=(by omega);exact h
 |succ g ih=>
  by_cases e:f=g+1
  ·exact e ▸ h
  ·exact(ih (by omega)).up
structure OwnN (lo:Nat) (w:World) (v:Value) (pss:List (List Nat)) (xs:List GNode):Prop where
 grow:GrowO 123 6 GNode.O lo w v pss xs
 nd:(fpO v pss).Nodup
 lo:∀b∈fpO v pss,lo<=b
theorem OwnN.lt {lo:Nat} {w:World} {v:Value} {pss:List (List Nat)} {xs:List GNode} (h:OwnN lo w v pss xs):∀b∈fpO v pss,b<w.heap.size:=h.grow.lt GNode.ok
theorem OwnN.below {lo:Nat} {w w' : World} {v:Value} {pss:List (List Nat)} {xs:List GNode} (h:OwnN lo w v pss xs) (hb:Below w.heap.size w w'):OwnN lo w' v pss xs:=⟨h.grow.below GNode.ok hb,h.nd,h.lo⟩
theorem OwnN.kept {lo:Nat} {w w' : World} {v:Value} {pss:List (List Nat)} {xs:List GNode} {S:Nat->Prop} (h:OwnN lo w v pss xs) (hk:Kept S w w') (hS:∀b∈fpO v pss,¬ S b):OwnN lo w' v pss xs:=⟨h.grow.kept GNode.ok hk hS,h.nd,h.lo⟩
theorem OwnN.nil {lo:Nat} {w:World} : OwnN lo w (.slice none 0 0) [] []:=⟨GrowO.nil,by simp[fpO,Value.ownBlock],fun b hb=>by simp[fpO,Value.ownBlock]at hb⟩
theorem OwnN.form {lo:Nat} {w:World} {v:Value} {pss:List (List Nat)} {xs:List GNode} (h:OwnN lo w v pss xs):∃a c,v=.slice a xs.length c:=h.grow.form
structure NStep (lo:Nat) (w:World) (v:Value) (pss:List (List Nat)) (w' : World) (v' : Value) (pss' : List (List Nat)) (xs' : List GNode):Prop where
 own:OwnN lo w' v' pss' xs'
 below:Below lo w w'
 kept:Kept (fun q=>v.ownBlock=some q) w w'
 blk:∀q,v'.ownBlock=some q->v.ownBlock=some q\/w.heap.size<=q
 new:∀b∈fpO v' pss',b∈fpO v pss\/w.heap.size<=b
theorem NStep.trans {lo:Nat} {w w1 w2:World} {v v1 v2:Value} {pss p1 p2:List (List Nat)} {x1 x2:List GNode} (h:NStep lo w v pss w1 v1 p1 x1) (k:NStep lo w1 v1 p1 w2 v2 p2 x2):NStep lo w v pss w2 v2 p2 x2:=by
 have hs:=h.below.size
 refine⟨k.own,h.below.trans k.below,fun q h1 h2=>(k.kept q (by omega) fun h3=>?_).trans (h.kept q h1 h2),fun q hq=>?_,fun b hb=>?_⟩
 ·rcases h.blk q h3 with h4|h4
  ·exact h2 h4
  ·omega
 ·rcases k.blk q hq with h3|h3
  ·exact h.blk q h3
  ·exact .inr (by omega)
 ·rcases k.new b hb with h3|h3
  ·exact h.new b h3
  ·exact .inr (by omega)
theorem NStep.refl {lo:Nat} {w:World} {v:Value} {pss:List (List Nat)} {xs:List GNode} (h:OwnN lo w v pss xs):NStep lo w v pss w v pss xs:=⟨h,Below.refl _ _,Kept.refl _ _,fun q h=>.inl h,fun b h=>.inl h⟩
theorem OwnN.push {lo n g cap:Nat} {w w1 w2:World} {v pv:Value} {pss:List (List Nat)} {rows:List (List Value)} {xs:List GNode} {bs:List Nat} {kd at_ nn:Int} {s:ByteArray} {ps:List GPat} {cs:Array Value} {T:TypeId}
  (hO:OwnN lo w v pss xs) (hlo:lo<=w.heap.size) (hown0:w.ownsRow lo 123 6 v n rows.flatten) (hrows:RowsO GNode.O 6 w pss rows xs) (hn:n=xs.length)
  (hb:Below w.heap.size w w1) (hwf:I64 kd/\I64 at_/\I64 nn/\StrOk s) (hp:SlO 177 1 GPat.O bs w1 pv ps) (hpn:bs.Nodup) (hpf:∀b∈bs,w.heap.size<=b)
  (hgrow:(w1.alloc (.cells cs T)).grownBy w2 v.ownBlock) (hown:w2.ownsRow lo 123 6 (.slice (some ⟨g,0,none⟩) (n+1) cap) (n+1) (rows.flatten ++ [.int .i64 kd,.int .i64 at_,.int .i64 nn,.string s,.slice none 0 0,pv]))
  (hat:v.ownBlock=some g\/g=(w1.alloc (.cells cs T)).heap.size) :
  NStep lo w v pss w2 (.slice (some ⟨g,0,none⟩) (n+1) cap) (pss ++ [bs]) (xs ++ [⟨kd,at_,nn,s,[],ps⟩]):=by
 have hs:=hb.size
 have hsA:(w1.alloc (.cells cs T)).heap.size=w1.heap.size+1:=by simp
 rw[hsA]at hat
 have hlt:=hO.lt
 have hbA:Below w.heap.size w (w1.alloc (.cells cs T)):=hb.trans (Below.mono (by go_grown) hs)
 have k6:=kept_of hgrow (w:=w) hbA
 have k61:=kept_of hgrow (w:=w1) (by go_grown)
 have hz6:w1.heap.size+1<=w2.heap.size:=by have:=hgrow.size;rw[hsA]at this;exact this
 have hob:=own_base hown0
 have hvp:∀b∈pss.flatten,v.ownBlock≠some b:=fun b hb e=>by
  have:=hO.nd
  unfold fpO at this
  exact(List.nodup_append.1 this).2.2 b (by rw[e];simp) b hb rfl
 have hR:=hrows.kept GNode.ok k6 (fun b hb e=>hvp b hb e.symm)
 have hS:=hp.kept GPat.ok k61 (fun b hb e=>by have h1:=(hob b e.symm).2;have h2:=hpf b hb;omega)
 refine⟨⟨?_,?_,?_⟩,?_,?_,?_,?_⟩
 ·exact GrowO.push hR hn hown rfl ⟨_,[],pv,bs,rfl,rfl,hwf,SlO.nil,hS⟩
 ·exact fpO_push (s0:=w.heap.size) (s1:=w1.heap.size+1) hO.nd hlt hpn hpf (fun b hb=>by have:=hp.lt GPat.ok b hb;omega) (by omega) hat
 ·intro b hb
  rw[fpO_slice,List.flatten_append,List.flatten_singleton]at hb
  rcases List.mem_cons.1 hb with h|h
  ·subst h
   rcases hat with h2|h2
   ·exact(hob b h2).1
   ·omega
  ·rcases List.mem_append.1 h with h|h
   ·exact hO.lo b (mem_fpO.2 (.inr h))
   ·have:=hpf b h;omega
 ·exact below_grown2 (wr:=w) hgrow hbA (Below.refl lo w) hlo hown0
 ·intro q h1 h2
  exact k6 q h1 fun e=>h2 e.symm
 ·intro q hq
  obtain rfl:g=q:=by simpa [Value.ownBlock] using hq
  rcases hat with h2|h2
  ·exact .inl h2
  ·exact .inr (by omega)
 ·intro b hb
  rw[fpO_slice,List.flatten_append,List.flatten_singleton]at hb
  rcases List.mem_cons.1 hb with h|h
  ·subst h
   rcases hat with h2|h2
   ·exact .inl (mem_fpO.2 (.inl h2))
   ·exact .inr (by omega)
  ·rcases List.mem_append.1 h with h|h
   ·exact .inl (mem_fpO.2 (.inr h))
   ·exact .inr (hpf b h)
theorem info_px:(Tryz.prog.info? 76).map (fun i=>(i.zero,i.size,i.bytes))=some (some (.pointer none),1,8):=by kernel_rfl
theorem growData_c (l:List GDNode) (hU:Up l) (hfew:∀ (j:Nat) x,l[j]? = some x->x.kids.length<=2) (hL:l.length<=600):∀ (f i:Nat) (u:Value) (lo:Nat) (w:World),Sl GDNode.R 4 lo w u l->i<l.length->l.length<=i+f->
  Calls Tryz.prog 32 #[u,.int .i64 i] w fun e w'=>∃b,e=.returned (.pointer (some ⟨b,0,none⟩))/\PxR f (fun b=>w.heap.size<=b) w' (.pointer (some ⟨b,0,none⟩)) (treeOf l f i)/\Below w.heap.size w w'
 |0,i,u,lo,w,hu,hi,hf=>absurd hf (by omega)
 |f+1,i,u,lo,w,hu,hi,hf=>by
  have ih:=growData_c l hU hfew hL f
  have Hu:=hu
  obtain⟨a,c,rfl,ul,um,h0⟩:=hu
  obtain⟨b1,o1,x,s1,_,rfl,P1,hx,r1⟩:=h0.get (kH rfl) hi
  have P1:=P1.out
  have hT:=treeOf_some (f:=f) P1
  have hup:=hU i x P1
  have hf2:=hfew i x P1
  obtain⟨kd,nn,s,ks⟩:=x
  obtain⟨u0,rfl,hwf,hkd⟩:=hx
  obtain⟨ka,kc,rfl,kl,km,k0⟩:=hkd
  dsimp only at *
  obtain⟨m,hm⟩ : ∃m,m=ks.length:=⟨_,rfl⟩
  rw[<- hm]at r1 kl hf2
  replace hm:=kH hm
  obtain⟨e_0,e_1,e_2,e_3⟩:=r1.cells4
  obtain⟨i0,hi0,hz0,hz1,hz2⟩:=info_parts info_px
  have I:=kH hi0;have I0:=kH hz0;have I1:=kH hz1;have I2:=kH hz2
  clear r1 hi0 hz0 hz1 hz2 P1 h0
  replace k0:=kH k0;replace hup:=kH hup;replace ih:=kH ih;replace hT:=kH hT
  replace Hu:=kH Hu
  clear hU hfew
  generalize hn:l.length=n at *
  replace hn:=kH hn
  go_enter Tryz.func32,Tryz.ntmps32
  go_upto_region 4 with fail
  have hfz:((w.alloc (.cells #[.int .i64 kd,.int .i64 nn,.string s,.slice ka m kc] 109)).alloc (.cells #[.int .i64 kd,.int .i64 nn,.string s,.slice none 0 0] 143)).frozen? ⟨w.heap.size+1,3,none⟩=false:=by go_simp
  have N:RowAt (w.alloc (.cells #[.int .i64 kd,.int .i64 nn,.string s,.slice ka m kc] 109)) (w.heap.size) 0 [.int .i64 kd,.int .i64 nn,.string s,.slice ka m kc]:=RowAt.box w #[.int .i64 kd,.int .i64 nn,.string s,.slice ka m kc] 109
  have N:=N.below (show Below (w.alloc (.cells #[.int .i64 kd,.int .i64 nn,.string s,.slice ka m kc] 109)).heap.size (w.alloc (.cells #[.int .i64 kd,.int .i64 nn,.string s,.slice ka m kc] 109)) ((w.alloc (.cells #[.int .i64 kd,.int .i64 nn,.string s,.slice ka m kc] 109)).alloc (.cells #[.int .i64 kd,.int .i64 nn,.string s,.slice none 0 0] 143)) by go_grown)
  have O:RowAt ((w.alloc (.cells #[.int .i64 kd,.int .i64 nn,.string s,.slice ka m kc] 109)).alloc (.cells #[.int .i64 kd,.int .i64 nn,.string s,.slice none 0 0] 143)) (w.heap.size+1) 0 [.int .i64 kd,.int .i64 nn,.string s,.slice none 0 0]:=by have h:=RowAt.box (w.alloc (.cells #[.int .i64 kd,.int .i64 nn,.string s,.slice ka m kc] 109)) #[.int .i64 kd,.int .i64 nn,.string s,.slice none 0 0] 143;simp only[World.size_alloc]at h;exact h
  have hw:Below w.heap.size w ((w.alloc (.cells #[.int .i64 kd,.int .i64 nn,.string s,.slice ka m kc] 109)).alloc (.cells #[.int .i64 kd,.int .i64 nn,.string s,.slice none 0 0] 143)):=by go_grown
  generalize ((w.alloc (.cells #[.int .i64 kd,.int .i64 nn,.string s,.slice ka m kc] 109)).alloc (.cells #[.int .i64 kd,.int .i64 nn,.string s,.slice none 0 0] 143))=w0 at *
  have hO:=O.box4.1
  go_loopw [24] (fun ii wr=>∃ (j:Nat) (vs:List Value) (v:Value),j<=m/\ii=.int .i64 j/\Below w.heap.size w wr/\RowAt wr (w.heap.size+1) 0 [.int .i64 kd,.int .i64 nn,.string s,v]/\wr.frozen? ⟨w.heap.size+1,3,none⟩=false/\
    Hid (KidsOwn wr (w.heap.size+2) 76 f vs ((ks.take j).map fun k=>treeOf l f k.toNat) v)/\w.heap.size+2<=wr.heap.size) (fun ii _=>m-(intOf ii).toNat)
  case atStart=>exact⟨0,[],_,by omega,rfl,hw,O,hfz,KidsOwn.nil _ _ _ _,World.block_lt_of_cell? _ _ hO⟩
  case round=>
   clear hO O N hw hfz
   obtain⟨j,vs,v,hj,rfl,hw,O,hfz,hK,hz⟩:=hrel
   obtain⟨ma,mcap,rfl⟩:=hK.out.form
   by_cases hjm:j<m
   ·obtain⟨b2,o2,k,s2,_,rfl,P2,⟨rfl,hk64⟩,r2⟩:=((k0.out.below IntR.good hw).get hm hjm)
    have e0:wr.cell? ⟨b2,o2+j,none⟩=some (.int .i64 k):=by simpa using r2 0 _ rfl
    have hk:=hup.out k (List.mem_of_getElem? P2.out)
    obtain⟨q,rfl⟩ : ∃q:Nat,k=q:=⟨k.toNat,by omega⟩
    have hst:(ks.take (j+1)).map (fun k=>treeOf l f k.toNat)=(ks.take j).map (fun k=>treeOf l f k.toNat) ++ [treeOf l f q]:=by rw[take_snoc' P2.out];simp
    have hlen:((ks.take j).map fun k=>treeOf l f k.toNat).length=j:=by have:=hm.out;simp;omega
    have hc:=fun W (hW:Below w.heap.size w W)=>ih.out q (.slice (some ⟨b1,o1,none⟩) n c) lo W (Hu.out.below GDNode.good hW) (by have:=hn.out;omega) (by have:=hn.out;omega)
    rw[hlen]at O
    replace hc:=kH hc
    obtain⟨o_0,o_1,o_2,o_3⟩:=O.box4
    have hw2:=hw.size
    clear r2 P2
    replace hK:Hid (KidsOwn wr (w.heap.size+2) 76 f vs ((ks.take j).map fun k=>treeOf l f k.toNat) (.slice ma j mcap)):=by have h:=hK.out;rw[hlen]at h;exact h
    have hown0:wr.ownsRow (w.heap.size+2) 76 1 (.slice ma j mcap) j vs:=by have h:=hK.out.2.1;rw[hlen]at h;exact h
    have hne:∀g,(Value.slice ma j mcap).ownBlock=some g->w.heap.size+2<=g/\g<wr.heap.size:=own_base hown0
    replace hown0:=kH hown0
    replace hne:=kH hne
    replace hst:=kH hst
    replace hlen:=kH hlen
    go_wp2_with fail
    go_region_law
     (first
      |(go_simp;go_at_call 32;refine(hc.out _ (by go_grown)).mono ?_;rintro e w1 ⟨pb,rfl,hR,hb⟩;have hb' : Below wr.heap.size wr w1:=Below.trans (show Below wr.heap.size wr wr.drew by go_grown) (hb.mono (by simp));have hz1:=hb'.size;have o3':=cell_below hb' o_3;have hs1:w.heap.size+1<w1.heap.size:=Nat.lt_of_lt_of_le (show w.heap.size+1<wr.heap.size from hz) hz1;clear hb)
      |(refine step_append_lies _ (by rfl) _ _ _ (by rfl) (w.heap.size+2) 76 i0 _ 1 8 Tryz.underlying141 I.out I0.out I1.out I2.out rfl (by omega) _ j vs (by rfl) (own_below hown0.out (by go_grown)) ⟨w1.heap.size,0,none⟩ 1 1 [.pointer (some ⟨pb,0,none⟩)] (by rfl) (by rfl) (World.news_of_block (cs:=#[.pointer (some ⟨pb,0,none⟩)]) (t:=76) (fr:=(0,0)) (heap_alloc_new' _ _ _ (by simp))) (by intro u hu;simp at hu;subst hu;rfl) (by omega) (by unfold maxLen;omega) (by omega) (by simp;omega) (w1.heap.size+1) (by simp) ?_;intro g cap w2 hown hgrow hat hlt2;have hk3:=kept_of hgrow (w:=wr) (by go_grown);have hblk:w2.heap[w.heap.size+1]? = wr.heap[w.heap.size+1]?:=hk3 _ (by omega) (fun e=>by have:=(hne.out _ e.symm).1;omega);have c2:w2.cell? ⟨w.heap.size+1,3,none⟩=some (.slice ma j mcap):=(World.cell?_of_block (w:=wr) (a:=⟨w.heap.size+1,3,none⟩) hblk).trans o_3;have f2:w2.frozen? ⟨w.heap.size+1,3,none⟩=false:=(World.frozen?_of_block (w:=wr) (a:=⟨w.heap.size+1,3,none⟩) hblk).trans hfz))
    all_goals
     have hB2:Below w.heap.size w w2:=hw.trans ((below_grown2 (wr:=wr) (base:=w.heap.size+2) hgrow (by go_grown) (Below.refl _ wr) hz hown0.out).mono (by omega))
     have hO2:=(O.of_block hblk).set3 (.slice (some ⟨g,0,none⟩) (j+1) cap)
     have hK2:=(KidsOwn.grow hK.out hz hb' (show Below w1.heap.size w1 (w1.alloc (.cells #[.pointer (some ⟨pb,0,none⟩)] 76)) by go_grown) hR hgrow hown (by rw[hlen.out]) (by simpa using hat)).set (b:=w.heap.size+1) (o:=3) (by omega) (.slice (some ⟨g,0,none⟩) (j+1) cap)
     rw[<- hst.out]at hK2
     have hz2:=hgrow.size
     simp only[World.size_alloc]at hz2
     replace hK2:=kH hK2
     clear hR hgrow hown hat hk3 hblk hK hc hne hlen hst hown0 hb' o3'
     go_wp2_with fail
     go_roundw
     case rel=>exact⟨j+1,_,.slice (some ⟨g,0,none⟩) (j+1) cap,by omega,by go_num,hB2.setCell (p:=⟨w.heap.size+1,3,none⟩) (by simp) _,hO2,by rw[frozen_setCell];exact f2,hK2.out,by simp;omega⟩
     case measure=>simp[intOf];omega
   ·obtain rfl:j=m:=by omega
    have hlen:ks.take j=ks:=List.take_of_length_le (by have:=hm.out;omega)
    rw[hlen]at hK O
    replace hlen:=kH hlen
    have hfin:PxR (f+1) (fun b=>w.heap.size<=b) wr (.pointer (some ⟨w.heap.size+1,0,none⟩)) (treeOf l (f+1) i):=by
     rw[hT.out]
     exact KidsOwn.tree (lo:=w.heap.size) (b:=w.heap.size+1) (base:=w.heap.size+2) (t:=.mk kd nn s (ks.map fun k=>treeOf l f k.toNat)) hK.out (by omega) (by omega) hwf O
    replace hfin:=kH hfin
    clear hK O
    go_wp2_with fail
    go_returns
    exact⟨w.heap.size+1,rfl,hfin.out,hw⟩
/-! Plain. -/
/-! Children that are gathered. -/
def KidsE (w:World) (base:Nat) (T:TypeId) (f:Nat) (vs:List Value) (ts:List ExT) (v:Value):Prop:=
 vs.length=ts.length/\w.ownsRow base T 1 v ts.length vs/\∀ (i:Nat) (p:Value) (t:ExT),vs[i]? = some p->ts[i]? = some t->ExR f (fun b=>base<=b/\v.ownBlock≠some b) w p t
theorem KidsE.nil (w:World) (base:Nat) (T:TypeId) (f:Nat):KidsE w base T f [] [] (.slice none 0 0):=⟨rfl,own_none,fun i p t (h:([] : List Value)[i]? = some p)=>by simp at h⟩
theorem KidsE.below {w w' : World} {base:Nat} {T:TypeId} {f:Nat} {vs:List Value} {ts:List ExT} {v:Value} (h:KidsE w base T f vs ts v) (hb:Below w.heap.size w w'):KidsE w' base T f vs ts v:=
 ⟨h.1,own_below h.2.1 hb,fun i p t h1 h2=>(h.2.2 i p t h1 h2).below hb⟩
theorem KidsE.grow {w w1 w1' w2:World} {base:Nat} {T:TypeId} {f:Nat} {vs:List Value} {ts:List ExT} {v p:Value} {t:ExT} {g n cap:Nat} (h:KidsE w base T f vs ts v) (hbase:base<=w.heap.size) (hb:Below w.heap.size w w1) (hb1:Below w1.heap.size w1 w1')
  (hp:ExR f (fun b=>w.heap.size<=b) w1 p t) (hg:w1'.grownBy w2 v.ownBlock) (hown:w2.ownsRow base T 1 (.slice (some ⟨g,0,none⟩) n cap) n (vs ++ [p])) (hn:n=ts.length+1) (hat:v.ownBlock=some g\/g=w1'.heap.size) :
  KidsE w2 base T f (vs ++ [p]) (ts ++ [t]) (.slice (some ⟨g,0,none⟩) n cap):=by
 subst hn
 obtain⟨h1,h2,h3⟩:=h
 have ob:=own_base h2
 have hs1:=hb.size
 have hs2:=hb1.size
 refine⟨by simp[h1],by simpa using hown,fun i q u hq hu=>?_⟩
 by_cases e:i=ts.length
 ·subst e
  rw[List.getElem?_append_right (by omega)]at hq hu
  have hq' : p=q:=by simpa [h1] using hq
  have hu' : t=u:=by simpa using hu
  subst hq' hu'
  have hp1:ExR f (fun b=>w.heap.size<=b/\b<w1.heap.size) w1 p t:=hp.to (Same.below (Below.refl _ _)) fun b h4 h5=>⟨h4,h5⟩
  refine(hp1.below hb1).to (fun b h4 h5=>hg.block b h5 fun e=>?_) fun b h4 h5=>⟨by omega,fun e=>?_⟩
  ·have:=(ob b e.symm).2
   omega
  ·obtain rfl:g=b:=by simpa [Value.ownBlock] using e
   rcases hat with h6|h6
   ·have:=(ob g h6).2
    omega
   ·omega
 ·have hi:i<ts.length:=by
   have:=(List.getElem?_eq_some_iff.1 hu).1
   simp at this;omega
  rw[List.getElem?_append_left (by omega)]at hq hu
  have hp1:ExR f (fun b=>(base<=b/\v.ownBlock≠some b)/\b<w.heap.size) w q u:=(h3 i q u hq hu).to (Same.below (Below.refl _ _)) fun b h4 h5=>⟨h4,h5⟩
  refine((hp1.below hb).below hb1).to (fun b h4 h5=>hg.block b h5 fun e=>h4.1.2 e.symm) fun b h4 h5=>⟨h4.1.1,fun e=>?_⟩
  obtain rfl:g=b:=by simpa [Value.ownBlock] using e
  rcases hat with h6|h6
  ·exact h4.1.2 h6
  ·omega
theorem KidsE.set {w:World} {base:Nat} {T:TypeId} {f:Nat} {vs:List Value} {ts:List ExT} {v:Value} (h:KidsE w base T f vs ts v) {b o:Nat} (hb:b<base) (u:Value):KidsE (w.setCell ⟨b,o,none⟩ u) base T f vs ts v:=
 ⟨h.1,own_kept (S:=fun k=>k=b) h.2.1 ((Kept.refl (fun k=>k=b) w).set (p:=⟨b,o,none⟩) rfl u) (fun g hg e=>by have:=(own_base h.2.1 g hg).1;omega),fun i p t h1 h2=>
  (h.2.2 i p t h1 h2).to (fun k hk _=>Below.heap_setCell w ⟨b,o,none⟩ u k (by show k≠b;omega)) fun k hk _=>hk⟩
theorem KidsE.form {w:World} {base:Nat} {T:TypeId} {f:Nat} {vs:List Value} {ts:List ExT} {v:Value} (h:KidsE w base T f vs ts v):∃a cap,v=.slice a ts.length cap:=by
 rcases h.2.1.2 with⟨rfl,h0⟩|⟨g,cap,cur,rfl,_⟩
 ·exact⟨none,0,by rw[h0]⟩
 ·exact⟨_,cap,rfl⟩
theorem KidsE.tree {w:World} {base lo b f:Nat} {T:TypeId} {vs:List Value} {kd at_ nn:Int} {s:ByteArray} {ts:List ExT} {v:Value} (h:KidsE w base T f vs ts v) (hl:lo<=b) (hbase:lo<=base) (hwf:(ExT.mk kd at_ nn s ts []).wf) (hr:RowAt w b 0 [.int .i64 kd,.int .i64 at_,.int .i64 nn,.string s,v,.slice none 0 0]) :
  ExR (f+1) (fun b=>lo<=b) w (.pointer (some ⟨b,0,none⟩)) (.mk kd at_ nn s ts []):=by
 by_cases h0:0<ts.length
 ·obtain⟨g,cap,rfl,h1,h2,h3,h4,h5,h6⟩:=own_cells h.2.1 h0
  refine⟨b,_,cap,_,[],rfl,hl,hwf,PatsSm.nil,hr,SlO.nil,fun q hq=>(by cases hq),h3,h4,fun _=>⟨g,0,rfl,by omega,fun i k hk=>?_⟩⟩
  have hi:=(List.getElem?_eq_some_iff.1 hk).1
  obtain⟨p,hp⟩ : ∃p,vs[i]? = some p:=⟨_,List.getElem?_eq_getElem (by rw[h.1];exact hi)⟩
  exact⟨p,h5 i p hp,(h.2.2 i p k hp hk).to (Same.below (Below.refl _ _)) fun b h _=>by omega⟩
 ·obtain⟨a,cap,rfl⟩:=h.form
  rcases h.2.1.2 with⟨hv,_⟩|⟨g,cap',cur,hv,_,_,h5,h6,_⟩
  ·injection hv with _ e1 e2
   subst e2
   exact⟨b,a,0,_,[],rfl,hl,hwf,PatsSm.nil,hr,SlO.nil,fun q hq=>(by cases hq),by show ts.length<=0;omega,by omega,fun h=>absurd h h0⟩
  ·injection hv with _ e1 e2
   subst e2
   exact⟨b,a,cap,_,[],rfl,hl,hwf,PatsSm.nil,hr,SlO.nil,fun q hq=>(by cases hq),h5,by unfold maxLen at h6;omega,fun h=>absurd h h0⟩
theorem ExR.node {f b g c:Nat} {S:Nat->Prop} {w:World} {kd at_ nn:Int} {s:ByteArray} {ts:List ExT} {vs:List Value} (hS:S b) (hg:S g) (hwf:(ExT.mk kd at_ nn s ts []).wf)
  (hr:RowAt w b 0 [.int .i64 kd,.int .i64 at_,.int .i64 nn,.string s,.slice (some ⟨g,0,none⟩) ts.length c,.slice none 0 0]) (hc:ts.length<=c) (hc2:c<=9223372036854775807) (hv:RowAt w g 0 vs) (hl:vs.length=ts.length)
  (hk:∀ (i:Nat) p t,vs[i]? = some p->ts[i]? = some t->ExR f S w p t):ExR (f+1) S w (.pointer (some ⟨b,0,none⟩)) (.mk kd at_ nn s ts []):=
 ⟨b,_,c,_,[],rfl,hS,hwf,PatsSm.nil,hr,SlO.nil,fun q hq=>(by cases hq),hc,hc2,fun _=>⟨g,0,rfl,hg,fun i k hi=>by
  obtain⟨p,hp⟩ : ∃p,vs[i]? = some p:=⟨_,List.getElem?_eq_getElem (by rw[hl];exact(List.getElem?_eq_some_iff.1 hi).1)⟩
  exact⟨p,hv i p hp,hk i p k hp hi⟩⟩⟩
theorem ExR.leaf {b c:Nat} {S:Nat->Prop} {w:World} {kd at_ nn:Int} {s:ByteArray} {a:Option Addr} (hS:S b) (hwf:(ExT.mk kd at_ nn s [] []).wf) (hc:c<=9223372036854775807)
  (hr:RowAt w b 0 [.int .i64 kd,.int .i64 at_,.int .i64 nn,.string s,.slice a 0 c,.slice none 0 0]):ExR 1 S w (.pointer (some ⟨b,0,none⟩)) (.mk kd at_ nn s [] []):=
 ⟨b,a,c,_,[],rfl,hS,hwf,PatsSm.nil,hr,SlO.nil,fun q hq=>(by cases hq),Nat.zero_le _,hc,fun h=>absurd h (by show ¬ 0<([] : List ExT).length;simp)⟩
theorem RowAt.putAt {w:World} {b j:Nat} {r:List Value} (h:RowAt w b 0 r) (hj:j<r.length) (u:Value):RowAt (w.setCell ⟨b,j,none⟩ u) b 0 (r.set j u):=fun i c hc=>by
 have h':=h
 rw[Nat.zero_add]
 by_cases e:j=i
 ·subst e
  rw[List.getElem?_set_self hj]at hc
  obtain rfl:=Option.some.inj hc
  have:=h j _ (List.getElem?_eq_getElem hj)
  rw[Nat.zero_add]at this
  exact cell_setCell_eq w b j _ this
 ·rw[List.getElem?_set_ne e]at hc
  have:=h i c hc
  rw[Nat.zero_add]at this
  exact(cell_setCell_ne w b j i _ e).trans this
end Go.Proofs.YtkikkfjmggobpaaGreat

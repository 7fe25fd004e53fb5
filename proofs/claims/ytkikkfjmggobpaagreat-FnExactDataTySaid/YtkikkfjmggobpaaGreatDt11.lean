/- Parts of the proof, merged: Ut1, Ut9, SbO, UnB, UnF. -/
import Derived.Lib.AppendZerosOnto
import Derived.Lib.Walk
import Derived.Deep.AppendSrc
import Derived.Test.YtkikkfjmggobpaaGreatDt10
namespace Go.Proofs.YtkikkfjmggobpaaGreat
open Go.RowKit
set_option maxRecDepth 100000
set_option maxHeartbeats 16000000
set_option linter.unusedVariables false
set_option linter.unusedSimpArgs false
attribute [local go_sem] Ext.cell
def IdxPostU {α:Type} (p:α->Bool) (xs:List α) (w:World) (e:Ending) (w' : World):Prop:=
 ((e=.returned (.int .i64 (-1))/\∀y∈xs,p y=false)\/∃ (k:Nat) (x:α),e=.returned (.int .i64 (k:Int))/\xs[k]? = some x/\p x=true/\∀y∈xs.take k,p y=false)/\Below w.heap.size w w'
theorem indexFuncSub_c (xs:Sbs) (p:Int × TyT->Bool) (g:Nat) (lb:Array Value) (lo:Nat) (u:Value) (w:World) (hu:Sl SubR 2 lo w u xs)
  (hp:∀ (i:Nat) x r W,xs[i]? = some x->Below w.heap.size w W->SubR lo W r x->Calls Tryz.prog g (#[.agg r.toArray] ++ lb) W fun e w'=>e=.returned (.bool (p x))/\Below W.heap.size W w') (eg:∀args w,(callFunc g args).run Tryz.prog w=.ok (.enter g args) w) :
  Calls Tryz.prog 152 #[u,.func (.func g) #[] lb] w (IdxPostU p xs w):=by
 obtain⟨ua,uc,rfl,ul,um,h0⟩:=hu
 have hpost1:(∀y∈xs,p y=false)->∀W,Below w.heap.size w W->IdxPostU p xs w (.returned (.int .i64 (-1))) W:=fun h W hW=>⟨.inl ⟨rfl,h⟩,hW⟩
 have hpost2:∀ (k:Nat) x W,xs[k]? = some x->p x=true->(∀y∈xs.take k,p y=false)->Below w.heap.size w W->IdxPostU p xs w (.returned (.int .i64 (k:Int))) W:=fun k x W h1 h2 h3 hW=>⟨.inr ⟨k,x,rfl,h1,h2,h3⟩,hW⟩
 generalize IdxPostU p xs w=Q at *
 replace hp:=kH hp;replace h0:=kH h0;replace hpost1:=kH hpost1;replace hpost2:=kH hpost2
 obtain⟨m,hm⟩ : ∃m,m=xs.length:=⟨_,rfl⟩
 rw[<- hm]at ul ⊢
 replace hm:=kH hm
 go_enter Tryz.func152,Tryz.ntmps152
 go_wp2_with fail
 go_loopw [8] (fun i wr=>∃k:Nat,k<=m/\i=.int .i64 k/\Below w.heap.size w wr/\Hid (∀y∈xs.take k,p y=false)) (fun i _=>m-(intOf i).toNat)
 case atStart=>exact⟨0,by omega,rfl,Below.refl _ _,fun y hy=>by simp at hy⟩
 case round=>
  obtain⟨k,hk,rfl,hw,hF⟩:=hrel
  by_cases hlt:k<m
  ·obtain⟨b1,o1,x,r,_,rfl,P1,hx,r1⟩:=(h0.out.below SubR.good hw).get hm.out hlt
   have hc:=hp.out k x r wr P1.out hw hx
   obtain⟨u0,rfl,hxf,hxs⟩:=id hx
   have e_0:wr.cell? ⟨b1,o1+k*2,none⟩=some (.int .i64 x.1):=by simpa using r1 0 _ rfl
   have e_1:wr.cell? ⟨b1,o1+k*2+1,none⟩=some u0:=r1 1 _ rfl
   obtain⟨a1,c1,rfl⟩:=hxs.form
   have hbb1:=World.block_lt_of_cell? _ _ e_0;dsimp only at hbb1
   clear r1 hx hxf hxs
   replace P1:=P1
   generalize hq:p x=q at hc
   replace hq:=kH hq
   cases q with
   |true=>
    go_wp2_with (go_at_fn g;refine hc.mono ?_;rintro e w1 ⟨rfl,hb⟩)
    exact hpost2.out k x _ P1.out hq.out hF.out (hw.trans (hb.mono hw.size))
   |false=>
    go_wp2_with (go_at_fn g;refine hc.mono ?_;rintro e w1 ⟨rfl,hb⟩)
    go_roundw
    case rel=>exact⟨k+1,by omega,by go_num,hw.trans (hb.mono hw.size),by
     show ∀y∈xs.take (k+1),p y=false
     rw[take_snoc' P1.out]
     intro y hy
     rcases List.mem_append.1 hy with h|h
     ·exact hF.out y h
     ·simp at h;subst h;exact hq.out⟩
    case measure=>simp[intOf];omega
  ·obtain rfl:k=m:=by omega
   go_wp2_with fail
   exact hpost1.out (by have hF:=hF.out;rw[List.take_of_length_le (by have:=hm.out;omega)]at hF;exact hF) _ hw
theorem getS_first:∀ {σ:Sbs} {k:Nat} {v:Int} {t:TyT},σ[k]? = some (v,t)->(∀y∈σ.take k,y.1≠v)->getS σ v=some t
 |[],k,v,t,h,_=>by simp at h
 |(a,s) :: σ,0,v,t,h,_=>by
  obtain⟨rfl,rfl⟩:=Prod.mk.inj (Option.some.inj h)
  unfold getS;rw[if_pos rfl]
 |(a,s) :: σ,k+1,v,t,h,h2=>by
  unfold getS
  rw[if_neg (fun e=>h2 (a,s) (by simp) e)]
  exact getS_first (by simpa using h) (fun y hy=>h2 y (by simp[hy]))
def SaPost (σ:Sbs) (v:Int) (w:World) (e:Ending) (w' : World):Prop:=
 ((e=.returned (.int .i64 (-1))/\getS σ v=none)\/∃ (k:Nat) (t:TyT),e=.returned (.int .i64 (k:Int))/\σ[k]? = some (v,t)/\getS σ v=some t)/\Below w.heap.size w w'
theorem subAt_c (σ:Sbs) (v:Int) (sv:Value) (w:World) (hσ:Sl SubR 2 0 w sv σ) :
  Calls Tryz.prog 114 #[sv,.int .i64 v] w (SaPost σ v w):=by
 have cI:∀W b,Below w.heap.size w W->W.cell? ⟨b,0,none⟩=some (.int .i64 v)->Calls Tryz.prog 152 #[sv,.func (.func 153) #[] #[.pointer (some ⟨b,0,none⟩)]] W (IdxPostU (fun p=>p.1 == v) σ W):=fun W b hW hb=>by
  refine indexFuncSub_c σ _ 153 _ 0 sv W (hσ.below SubR.good hW) (fun i x r W2 hx hW2 hr=>?_) (fun _ _=>by kernel_rfl)
  obtain⟨u,rfl,h64,hs⟩:=hr
  obtain⟨ua,uc,rfl⟩:=hs.form
  have hb2:=cell_below hW2 hb
  have hbl:=World.block_lt_of_cell? _ _ hb2;dsimp only at hbl
  clear hs hx
  generalize x.1=k at *
  generalize (flatY x.2).length=n at *
  show Calls Tryz.prog 153 #[.agg #[.int .i64 k,.slice ua n uc],.pointer (some ⟨b,0,none⟩)] W2 _
  go_enter Tryz.func153,Tryz.ntmps153
  go_wp2_with fail
  go_returns
  exact⟨rfl,by go_grown⟩
 have hpost:∀W1 W e,Below w.heap.size w W1->IdxPostU (fun p:Int × TyT=>p.1 == v) σ W1 e W->SaPost σ v w e W:=fun W1 W e h0 h=>by
  refine⟨?_,h0.trans (h.2.mono h0.size)⟩
  rcases h.1 with⟨rfl,h1⟩|⟨k,x,rfl,h1,h2,h3⟩
  ·exact .inl ⟨rfl,getS_none.2 fun p hp=>by simpa using h1 p hp⟩
  ·obtain⟨a,t⟩:=x
   obtain rfl:a=v:=by simpa using h2
   exact .inr ⟨k,t,rfl,h1,getS_first h1 fun y hy=>by simpa using h3 y hy⟩
 have hpostR:∀W1 W e,Below w.heap.size w W1->IdxPostU (fun p:Int × TyT=>p.1 == v) σ W1 e W->∃n:Int,e=.returned (.int .i64 n)/\SaPost σ v w (.returned (.int .i64 n)) W:=fun W1 W e h0 h=>by
  have h2:=hpost W1 W e h0 h
  rcases h.1 with⟨rfl,_⟩|⟨k,x,rfl,_⟩<;>exact⟨_,rfl,h2⟩
 obtain⟨ua,uc,rfl⟩:=hσ.form
 generalize SaPost σ v w=Q at *
 generalize σ.length=n at *
 replace cI:=kH cI;replace hpostR:=kH hpostR
 clear hσ hpost
 go_enter Tryz.func114,Tryz.ntmps114
 go_upto_region 1 with fail
 have B:RowAt (w.alloc (.cells #[.int .i64 v] 3)) (w.heap.size) 0 [.int .i64 v]:=RowAt.box w #[.int .i64 v] 3
 have hw:Below w.heap.size w (w.alloc (.cells #[.int .i64 v] 3)):=by go_grown
 generalize (w.alloc (.cells #[.int .i64 v] 3))=w0 at *
 have b_0:=B.box1;have hsB:=bLt b_0
 have cI2:=cI.out w0 w.heap.size hw b_0
 go_wp2_with (go_at_call 152;(with_reducible refine(cI2).mono ?_);rintro e w2 h2;obtain⟨k,rfl,h3⟩:=hpostR.out w0 w2 e hw h2)
 exact h3
def ItPost (l:List GTyItem) (w:World) (e:Ending) (w' : World):Prop:=∃v,e=.returned v/\OwnT w.heap.size w' v l/\Below w.heap.size w w'
theorem single_c (name:ByteArray) (hs:StrOk name) (w:World):Calls Tryz.prog 74 #[.string name] w (ItPost [⟨0,name,0⟩] w):=by
 have h0:I64 0:=⟨by decide,by decide⟩
 have hO:OwnT w.heap.size (w.alloc (.cells #[.int .i64 0,.string name,.int .i64 0] 107)) (.slice (some ⟨w.heap.size,0,none⟩) 1 1) [⟨0,name,0⟩]:=
  ⟨own_new w #[.int .i64 0,.string name,.int .i64 0] 107 3 1 rfl (by decide) w.heap.size (Nat.le_refl _),fun x hx=>by simp only[List.mem_singleton]at hx;subst hx;exact⟨h0,hs,h0⟩⟩
 have hpost:ItPost [⟨0,name,0⟩] w (.returned (.slice (some ⟨w.heap.size,0,none⟩) 1 1)) (w.alloc (.cells #[.int .i64 0,.string name,.int .i64 0] 107)):=⟨_,rfl,hO,by go_grown⟩
 generalize ItPost [⟨0,name,0⟩] w=Q at *
 replace hpost:=kH hpost
 clear hO h0
 go_enter Tryz.func74,Tryz.ntmps74
 go_wp2_with fail
 exact hpost.out
theorem ownT_app {B g2 cap2 vn mn:Nat} {w w6:World} {ov:Value} {Pi Mi:List GTyItem} {M:List Value} (T:OwnT B w ov Pi) (hvn:vn=Pi.length) (hmn:mn=Mi.length) (hwf:∀y∈Mi,y.wf) (hM:M=rowsOf tyRow Mi)
  (hown:w6.ownsRow B 107 3 (.slice (some ⟨g2,0,none⟩) (vn+mn) cap2) (vn+mn) (rowsOf tyRow Pi++M)):OwnT B w6 (.slice (some ⟨g2,0,none⟩) (vn+mn) cap2) (Pi++Mi):=by
 refine⟨?_,fun y hy=>?_⟩
 ·rw[List.length_append,<- hvn,<- hmn,rowsOf_append,<- hM];exact hown
 ·rcases List.mem_append.1 hy with h|h
  ·exact T.2 y h
  ·exact hwf y h
theorem info_TyItemU:(Tryz.prog.info? 107).map (fun i=>(i.zero,i.size,i.bytes))=some (some (.agg #[.int .i64 0,.string ⟨#[]⟩,.int .i64 0]),3,32):=by kernel_rfl
theorem put_c (l:List GTyItem) (σ:Sbs) (hB:(putL σ l).length<=1000000000) (tv sv:Value) (w:World) (ht:Sl GTyItem.R 3 0 w tv l) (hσ:Sl SubR 2 0 w sv σ) :
  Calls Tryz.prog 72 #[tv,sv] w (ItPost (putL σ l) w):=by
 have hpost:∀W v,OwnT w.heap.size W v (putL σ l)->Below w.heap.size w W->ItPost (putL σ l) w (.returned v) W:=fun W v h1 h3=>⟨v,rfl,h1,h3⟩
 generalize ItPost (putL σ l) w=Q at *
 obtain⟨ta,tc,rfl,tl,tm,t0⟩:=ht
 have cS:=fun W (hW:Below w.heap.size w W) v=>subAt_c σ v sv W (hσ.below SubR.good hW)
 obtain⟨sa,sc,rfl,sl,sm,s0⟩:=hσ
 obtain⟨n,hn⟩ : ∃n,n=l.length:=⟨_,rfl⟩
 obtain⟨m,hm⟩ : ∃m,m=σ.length:=⟨_,rfl⟩
 rw[<- hn]at tl ⊢
 rw[<- hm]at sl cS ⊢
 have tK:∀W,Below w.heap.size w W->SlAt GTyItem.R 3 0 W ta l:=fun W hW=>t0.below GTyItem.good hW
 have sK:∀W,Below w.heap.size w W->SlAt SubR 2 0 W sa σ:=fun W hW=>s0.below SubR.good hW
 unfold SaPost at cS
 replace tK:=kH tK;replace sK:=kH sK;replace hn:=kH hn;replace hm:=kH hm;replace hpost:=kH hpost;replace hB:=kH hB;replace cS:=kH cS
 clear t0 s0
 obtain⟨iI,hi0,hz0,hz1,hz2⟩:=info_parts info_TyItemU;have II:=kH hi0;have II0:=kH hz0;have II1:=kH hz1;have II2:=kH hz2;clear hi0 hz0 hz1 hz2
 go_enter Tryz.func72,Tryz.ntmps72
 go_upto_region 2 with fail
 obtain⟨w1,hW1⟩ : ∃W,W=w.alloc (.cells #[] 107):=⟨_,rfl⟩
 rw[<- hW1]
 have hw1:Below w.heap.size w w1:=by rw[hW1];go_grown
 have O1:OwnT w.heap.size w1 (.slice (some ⟨w.heap.size,0,none⟩) 0 0) (putL σ (l.take 0)):=by
  rw[List.take_zero,hW1]
  exact⟨own_empty_at (by have h:=heap_alloc_new' w (.cells #[] 107) _ rfl;simpa using h) (Nat.le_refl _),fun x h=>by cases h⟩
 generalize (Value.slice (some ⟨w.heap.size,0,none⟩) 0 0)=ov0 at *
 replace O1:=kH O1
 clear hW1
 go_wp2_with fail
 go_loopw [5,12] (fun ov ii wr=>∃ (i:Nat),i<=n/\ii=.int .i64 i/\Hid (OwnT w.heap.size wr ov (putL σ (l.take i)))/\Below w.heap.size w wr) (fun _ ii _=>n-(intOf ii).toNat)
 case atStart=>exact⟨0,by omega,rfl,O1,hw1⟩
 case round=>
  clear O1 hw1
  obtain⟨i,hi,rfl,OT,hw⟩:=hrel
  by_cases hlt:i<n
  ·obtain⟨b1,o1,x,r,_,rfl,P1,⟨rfl,hwf⟩,r1⟩:=(tK.out _ hw).get hn.out hlt
   have hstep:=putL_take (σ:=σ) P1.out
   have hle:=putL_le (σ:=σ) (l:=l) (i+1)
   have hB':=hB.out
   have hz:=hw.size
   obtain⟨va,nm,ar⟩:=x
   dsimp only[tyRow]at r1
   have e_0:wr.cell? ⟨b1,o1+i*3,none⟩=some (.int .i64 va):=by simpa using r1 0 _ rfl
   have e_1:wr.cell? ⟨b1,o1+i*3+1,none⟩=some (.string nm):=r1 1 _ rfl
   have e_2:wr.cell? ⟨b1,o1+i*3+2,none⟩=some (.int .i64 ar):=r1 2 _ rfl
   have hbb1:=World.block_lt_of_cell? _ _ e_0;dsimp only at hbb1
   obtain⟨q,hq⟩ : ∃q,nm.toList.isEmpty=q:=⟨_,rfl⟩
   have hq2:(nm.toList == [])=q:=by rw[<- hq];cases nm.toList<;>rfl
   have hx1:(q=false\/getS σ va=none)->putX σ ⟨va,nm,ar⟩=[⟨va,nm,ar⟩]:=fun h=>by
    unfold putX
    dsimp only
    rw[hq]
    rcases h with rfl|h
    ·rfl
    ·cases q
     ·rfl
     ·rw[if_pos rfl,h]
   have hx2:∀t,q=true->getS σ va=some t->putX σ ⟨va,nm,ar⟩=flatY t:=fun t h1 h2=>by
    unfold putX
    dsimp only
    rw[hq,h1,if_pos rfl,h2]
   generalize hPi:putL σ (l.take i)=Pi at *
   generalize hPn:putL σ (l.take (i+1))=Pn at *
   clear r1 P1
   have hl1:(q=false\/getS σ va=none)->Pn=Pi ++ [⟨va,nm,ar⟩]/\Pi.length+1<=1000000000:=fun h=>by
    have h2:=hstep
    rw[hx1 h]at h2
    have h3:=congrArg List.length h2
    rw[List.length_append]at h3
    simp only[List.length_singleton]at h3
    exact⟨h2,by omega⟩
   have hl2:∀t,q=true->getS σ va=some t->Pn=Pi++flatY t/\Pi.length+(flatY t).length<=1000000000:=fun t h1 h2=>by
    have h3:=hstep
    rw[hx2 t h1 h2]at h3
    have h4:=congrArg List.length h3
    rw[List.length_append]at h4
    exact⟨h3,by omega⟩
   clear hx1 hx2 hstep hle hB'
   obtain⟨vn,hvn⟩ : ∃y,y=Pi.length:=⟨_,rfl⟩
   rw[<- hvn]at hl1 hl2
   replace hq:=kH hq;replace hPi:=kH hPi;replace hPn:=kH hPn;replace hwf:=kH hwf;replace hl1:=kH hl1;replace hl2:=kH hl2
   go_upto_region 5 with fail
   obtain⟨w2,hW2⟩ : ∃W,W=wr.alloc (.cells #[.int .i64 va,.string nm,.int .i64 ar] 107):=⟨_,rfl⟩
   rw[<- hW2]
   have hb2:Below wr.heap.size wr w2:=by rw[hW2];go_grown
   have X:RowAt w2 wr.heap.size 0 [.int .i64 va,.string nm,.int .i64 ar]:=by rw[hW2];exact RowAt.box wr #[_,_,_] _
   have hz2:wr.heap.size+1<=w2.heap.size:=by rw[hW2];simp
   obtain⟨xb,hxb⟩ : ∃x,x=wr.heap.size:=⟨_,rfl⟩
   rw[<- hxb]at X hz2 ⊢
   have T2:=OT.out.below hb2
   have hw2:=hw.trans (hb2.mono hw.size)
   have hzw:=hw2.size
   have hb:=T2.base
   have hbx:=OT.out.base
   obtain⟨va',vc',rfl⟩:=T2.form
   rw[<- hvn]at T2 hb hbx ⊢
   have hox:∀g,(Value.slice va' vn vc').ownBlock=some g->g≠xb:=fun g hg=>by have:=hbx g hg;omega
   have hown:=T2.1
   rw[<- hvn]at hown
   replace T2:=kH T2;replace hown:=kH hown;replace hb:=kH hb;replace hox:=kH hox
   replace hvn:=kH hvn;replace hxb:=kH hxb
   clear hW2 hb2 e_0 e_1 e_2 hbb1 OT hbx
   obtain⟨x_0,x_1,x_2⟩:=X.box3;have hsX:=bLt x_0
   cases q
   ·obtain⟨hn1,hn2⟩:=hl1.out (.inl rfl)
    replace hn1:=kH hn1
    go_wp2_with ((at_builtin;refine wpList_append_lies _ rfl _ _ _ rfl (w.heap.size) 107 iI _ 3 32 Tryz.underlying31 II.out II0.out II1.out II2.out rfl (by omega) (.slice va' vn vc') (vn) (rowsOf tyRow Pi) rfl (own_below hown.out (by go_grown)) ⟨w2.heap.size,0,none⟩ 1 1 [.int .i64 va,.string nm,.int .i64 ar] rfl rfl (World.news_of_block (cs:=#[.int .i64 va,.string nm,.int .i64 ar]) (t:=107) (fr:=(0,0)) (heap_alloc_new' _ _ _ (by simp))) (by intro u hu;simp at hu;repeat' first|(subst hu;rfl)|rcases hu with hu|hu) (by omega) (by unfold maxLen;omega) (by omega) (by simp;omega) _ rfl ?_;intro g2 cap2 w6 hown6 hgrow hat hlt2))
    have hbA:Below w2.heap.size w2 (w2.alloc (.cells #[.int .i64 va,.string nm,.int .i64 ar] 107)):=by go_grown
    have y1:=ownT_app (Mi:=[⟨va,nm,ar⟩]) (T2.out.below hbA) hvn.out rfl (fun y hy=>by simp only[List.mem_singleton]at hy;subst hy;exact hwf.out) (by rw[rowsOf_one];rfl) hown6
    have y2:=below_grown2 (wr:=w2) (base:=w.heap.size) hgrow hbA hw2 hw2.size hown.out
    go_roundw
    case rel=>exact⟨i+1,by omega,by go_num,kH (by rw[hPn.out,hn1.out];exact y1),y2⟩
    case measure=>simp[intOf];omega
   ·have cS':=cS.out w2 hw2 va
    go_upto_region 7 with(go_at_call 114;(with_reducible refine(cS').mono ?_);rintro e w3 ⟨h3,hb3⟩;obtain⟨kk,rfl,h4⟩ : ∃kk:Int,e=.returned (.int .i64 kk)/\((kk = -1/\getS σ va=none)\/∃ (k:Nat) (t:TyT),kk=k/\σ[k]? = some (va,t)/\getS σ va=some t):=(by rcases h3 with⟨rfl,h⟩|⟨k,t,rfl,h,h'⟩;exact⟨-1,rfl,.inl ⟨rfl,h⟩⟩;exact⟨k,rfl,.inr ⟨k,t,rfl,h,h'⟩⟩);replace h4:=kH h4;clear h3)
    have X3:=X.below hb3
    have hw3:=hw2.trans (hb3.mono hw2.size)
    have T3:=T2.out.below hb3
    have hown3:=own_below hown.out hb3
    have hz3:=hb3.size
    replace T3:=kH T3;replace hown3:=kH hown3
    clear x_0 x_1 x_2 hsX X T2 hown cS' hb3 hb hw2
    obtain⟨x3_0,x3_1,x3_2⟩:=X3.box3;have hsX3:=bLt x3_0
    rcases h4.out with⟨rfl,h5⟩|⟨k,t,rfl,h5,h6⟩
    ·obtain⟨hn1,hn2⟩:=hl1.out (.inr h5)
     replace hn1:=kH hn1
     clear h4 h5
     go_wp2_with ((at_builtin;refine wpList_append_lies _ rfl _ _ _ rfl (w.heap.size) 107 iI _ 3 32 Tryz.underlying31 II.out II0.out II1.out II2.out rfl (by omega) (.slice va' vn vc') (vn) (rowsOf tyRow Pi) rfl (own_below hown3.out (by go_grown)) ⟨w3.heap.size,0,none⟩ 1 1 [.int .i64 va,.string nm,.int .i64 ar] rfl rfl (World.news_of_block (cs:=#[.int .i64 va,.string nm,.int .i64 ar]) (t:=107) (fr:=(0,0)) (heap_alloc_new' _ _ _ (by simp))) (by intro u hu;simp at hu;repeat' first|(subst hu;rfl)|rcases hu with hu|hu) (by omega) (by unfold maxLen;omega) (by omega) (by simp;omega) _ rfl ?_;intro g2 cap2 w6 hown6 hgrow hat hlt2))
     have hbA:Below w3.heap.size w3 (w3.alloc (.cells #[.int .i64 va,.string nm,.int .i64 ar] 107)):=by go_grown
     have y1:=ownT_app (Mi:=[⟨va,nm,ar⟩]) (T3.out.below hbA) hvn.out rfl (fun y hy=>by simp only[List.mem_singleton]at hy;subst hy;exact hwf.out) (by rw[rowsOf_one];rfl) hown6
     have y2:=below_grown2 (wr:=w3) (base:=w.heap.size) hgrow hbA hw3 hw3.size hown3.out
     go_roundw
     case rel=>exact⟨i+1,by omega,by go_num,kH (by rw[hPn.out,hn1.out];exact y1),y2⟩
     case measure=>simp[intOf];omega
    ·obtain⟨hn1,hn2⟩:=hl2.out t (by first|trivial|rfl) h6
     have hkm:k<m:=by have:=(List.getElem?_eq_some_iff.1 h5).1;have:=hm.out;omega
     obtain⟨b3,o3,p,r3,_,rfl,P3,⟨u,rfl,hp64,hu⟩,r3'⟩:=(sK.out _ hw3).get hm.out hkm
     obtain rfl:(va,t)=p:=Option.some.inj (h5.symm.trans P3.out)
     obtain⟨ua,uc,rfl⟩:=hu.form
     dsimp only at hu r3'
     have g_0:w3.cell? ⟨b3,o3+k*2,none⟩=some (.int .i64 va):=by simpa using r3' 0 _ rfl
     have g_1:w3.cell? ⟨b3,o3+k*2+1,none⟩=some (.slice ua (flatY t).length uc):=r3' 1 _ rfl
     have hbb3:=World.block_lt_of_cell? _ _ g_0;dsimp only at hbb3
     have htp:0<(flatY t).length:=by rw[flatY_len];exact szY_pos t
     obtain⟨tn,htn⟩ : ∃x,x=(flatY t).length:=⟨_,rfl⟩
     rw[<- htn]at g_1 hn2 htp
     replace hu:Sl GTyItem.R 3 0 w3 (.slice ua tn uc) (flatY t):=by rw[htn];exact hu
     replace htn:=kH htn;replace hu:=kH hu;replace hn1:=kH hn1
     clear r3' P3 h4 h5 h6 hp64
     go_wp2_with (at_builtin;refine wpList_append_ne _ flatTyItem rfl _ _ _ rfl w.heap.size 107 iI _ 32 Tryz.underlying31 II.out II0.out II1.out II2.out rfl _ vn (rowsOf tyRow Pi) rfl hown3.out 0 _ (flatY t) rfl (by have h1:=htn.out;omega) hu.out (by have h1:=htn.out;unfold maxLen;omega) (by have h1:=htn.out;omega) hw3.size _ rfl ?_;(try rw[<- htn.out]);intro g2 cap2 w6 hown6 hgrow hat)
     have y1:=ownT_app T3.out hvn.out htn.out (flatTyItem.wfs hu.out) rfl hown6
     have y2:=below_grown2 (wr:=w3) (base:=w.heap.size) hgrow (Below.refl _ _) hw3 hw3.size hown3.out
     go_roundw
     case rel=>exact⟨i+1,by omega,by go_num,kH (by rw[hPn.out,hn1.out];exact y1),y2⟩
     case measure=>simp[intOf];omega
  ·obtain rfl:i=n:=by omega
   have OT':=OT.out
   rw[List.take_of_length_le (by have:=hn.out;omega)]at OT'
   go_wp2_with fail
   exact hpost.out _ _ OT' hw
theorem growNilT_c (n:Nat) (h0:0<n) (hn:n<=10000000) (w:World) :
  Calls Tryz.prog 118 #[.slice none 0 0,.int .i64 n] w fun e w'=>∃g cap,e=.returned (.slice (some ⟨g,0,none⟩) 0 cap)/\w'.ownsRow w.heap.size 107 3 (.slice (some ⟨g,0,none⟩) 0 cap) 0 []/\Below w.heap.size w w':=by
 obtain⟨i0,hi0,hz0,hz1,hz2⟩:=info_parts info_TyItemU
 have hrz:∀ty,(Builtin.append_ #[31,3] ty #[.slice none 0 0,.int .i64 n]).run Tryz.prog w =
   .ok (.slice (some ⟨w.heap.size,0,none⟩) (0+n) (grownCap w (0+n) 0 107)) (w.drew.alloc (.cells ((#[] : Array Value)++Builtin.zeroCells (Value.agg #[.int .i64 0,.string ⟨#[]⟩,.int .i64 0]).cells n++Builtin.zeroCells (Value.agg #[.int .i64 0,.string ⟨#[]⟩,.int .i64 0]).cells (grownCap w (0+n) 0 107-(0+n))) 107)):=fun ty=>
  Lib.run_append_grow_zeros w 31 3 ty 107 i0 _ .i64 .i64 Tryz.underlying31 Tryz.underlying3 hi0 hz0 none 0 0 [] (run_firstCells_none w.drew i0.size 0 0 0) n h0 (by rw[hz1];decide) (by omega) (by omega) (by rw[hz2];omega) (growslice_fits (by omega) (by rw[hz2];omega))
 have hGn:0+n<=grownCap w (0+n) 0 107:=grownCap_ge w _ _ _
 have hG63:=grownCap_le_maxLen w (0+n) 0 107 (by unfold maxLen;omega)
 generalize grownCap w (0+n) 0 107=G at *
 have hfin:(w.drew.alloc (.cells ((#[] : Array Value)++Builtin.zeroCells (Value.agg #[.int .i64 0,.string ⟨#[]⟩,.int .i64 0]).cells n++Builtin.zeroCells (Value.agg #[.int .i64 0,.string ⟨#[]⟩,.int .i64 0]).cells (G-(0+n))) 107)).ownsRow w.heap.size 107 3 (.slice (some ⟨w.heap.size,0,none⟩) 0 G) 0 []:=by
  refine⟨rfl,.inr ⟨w.heap.size,G,_,rfl,Nat.le_refl _,heap_alloc_new' _ _ _ (by simp),Nat.zero_le _,hG63,?_,by simp⟩⟩
  simp[Builtin.zeroCells,Value.cells]
  omega
 have hbel:Below w.heap.size w (w.drew.alloc (.cells ((#[] : Array Value)++Builtin.zeroCells (Value.agg #[.int .i64 0,.string ⟨#[]⟩,.int .i64 0]).cells n++Builtin.zeroCells (Value.agg #[.int .i64 0,.string ⟨#[]⟩,.int .i64 0]).cells (G-(0+n))) 107)):=by go_grown
 generalize w.drew.alloc (.cells ((#[] : Array Value)++Builtin.zeroCells (Value.agg #[.int .i64 0,.string ⟨#[]⟩,.int .i64 0]).cells n++Builtin.zeroCells (Value.agg #[.int .i64 0,.string ⟨#[]⟩,.int .i64 0]).cells (G-(0+n))) 107)=W at *
 have h1 : ¬ ((n:Int)<0):=by omega
 have h4:(n:Int) > 0:=by omega
 have h5:(0:Int)<=n:=by omega
 clear hi0 hz0 hz1 hz2
 unfold maxLen at hG63
 replace hfin:=kH hfin
 go_enter Tryz.func118,Tryz.ntmps118
 go_wp2_with (at_builtin;refine Lib.wpList_append_run _ rfl _ _ _ _ rfl _ _ rfl rfl _ _ (hrz _) ?_)
 go_returns
 exact⟨w.heap.size,G,rfl,hfin.out,hbel⟩
def PieceR:Reading (List GTyItem):=fun lo w r l=>∃u,r=[u]/\Sl GTyItem.R 3 lo w u l
theorem PieceR.good:Reading.Good PieceR:=⟨fun⟨u,h1,h3⟩ hb=>⟨u,h1,h3.agree GTyItem.good hb⟩,fun⟨u,h1,h3⟩ hl=>⟨u,h1,h3.mono GTyItem.good hl⟩⟩
theorem flat_take {ps:List (List GTyItem)} {k:Nat} {l:List GTyItem} (h:ps[k]? = some l):(ps.take (k+1)).flatten=(ps.take k).flatten++l:=by rw[take_snoc' h,List.flatten_append];simp
theorem flat_le {ps:List (List GTyItem)} (k:Nat):((ps.take k).flatten).length<=ps.flatten.length:=by
 conv=>rhs;rw[<- List.take_append_drop k ps]
 rw[List.flatten_append,List.length_append];omega
theorem concatT_c (ps:List (List GTyItem)) (h0:0<ps.flatten.length) (hB:ps.flatten.length<=10000000) (u:Value) (lo:Nat) (w:World) (hu:Sl PieceR 1 lo w u ps) :
  Calls Tryz.prog 75 #[u] w (ItPost ps.flatten w):=by
 have hpost:∀W v,OwnT w.heap.size W v ps.flatten->Below w.heap.size w W->ItPost ps.flatten w (.returned v) W:=fun W v h1 h3=>⟨v,rfl,h1,h3⟩
 generalize ItPost ps.flatten w=Q at *
 obtain⟨ua,uc,rfl,ul,um,s0⟩:=hu
 obtain⟨n,hn⟩ : ∃n,n=ps.length:=⟨_,rfl⟩
 rw[<- hn]at ul ⊢
 have tK:∀W,Below w.heap.size w W->SlAt PieceR 1 lo W ua ps:=fun W hW=>s0.below PieceR.good hW
 have hft:∀k,n<=k->(ps.take k).flatten=ps.flatten:=fun k hk=>by rw[List.take_of_length_le (by omega)]
 have hfl:=flat_le (ps:=ps)
 obtain⟨N,hN⟩ : ∃N,N=ps.flatten.length:=⟨_,rfl⟩
 rw[<- hN]at h0 hB hfl
 have gc:=growNilT_c N h0 hB
 obtain⟨iI,hi0,hz0,hz1,hz2⟩:=info_parts info_TyItemU;have II:=kH hi0;have II0:=kH hz0;have II1:=kH hz1;have II2:=kH hz2;clear hi0 hz0 hz1 hz2
 replace tK:=kH tK;replace hn:=kH hn;replace hft:=kH hft;replace hfl:=kH hfl;replace hN:=kH hN;replace gc:=kH gc;replace hpost:=kH hpost
 clear s0
 go_enter Tryz.func75,Tryz.ntmps75
 go_wp2_with fail
 go_loopw [3,11] (fun z i wr=>∃ (k t:Nat),k<=n/\i=.int .i64 k/\z=.int .i64 t/\t<=N/\wr=w/\Hid (t=((ps.take k).flatten).length)) (fun _ i _=>n-(intOf i).toNat)
 case atStart=>exact⟨0,0,by omega,by simp,by simp,by omega,rfl,kH (by simp)⟩
 case round=>
  obtain⟨k,t,hk,rfl,rfl,htN,rfl,ht⟩:=hrel
  by_cases hlt:k<n
  ·obtain⟨b1,o1,l,r,_,rfl,P1,⟨v1,rfl,hl⟩,r1⟩:=(tK.out _ (Below.refl _ _)).get hn.out hlt
   have e_0:wr.cell? ⟨b1,o1+k,none⟩=some v1:=by simpa using r1 0 _ rfl
   obtain⟨a1,c1,rfl⟩:=hl.form
   have hst:=flat_take P1.out
   have hle:=hfl.out (k+1)
   rw[hst,List.length_append]at hle
   obtain⟨m,hm⟩ : ∃m,m=l.length:=⟨_,rfl⟩
   rw[<- hm]at hle e_0
   have htm:t+m<=N:=by have:=ht.out;omega
   have hneg:decide ((t:Int)+(m:Int)<0)=false:=decide_eq_false (by omega)
   replace hst:=kH hst;replace hm:=kH hm
   clear r1 hle hl
   go_wp2_with fail
   go_roundw
   case rel=>exact⟨k+1,t+m,by omega,by go_num,by go_num,htm,by first|rfl|trivial,kH (by rw[hst.out,List.length_append,<- ht.out,<- hm.out])⟩
   case measure=>simp[intOf];omega
  ·obtain rfl:k=n:=by omega
   obtain rfl:t=N:=by rw[ht.out,hft.out k (Nat.le_refl _),<- hN.out]
   go_wp2_with (go_at_call 118;((with_reducible refine(gc.out _).mono ?_);rintro e w1 ⟨g,cap,rfl,O,hw1⟩))
   have O1:OwnT wr.heap.size w1 (.slice (some ⟨g,0,none⟩) 0 cap) ((ps.take 0).flatten):=by rw[List.take_zero];exact⟨O,fun x h=>(by cases h)⟩
   replace O1:=kH O1
   clear gc O
   obtain⟨w0,rfl⟩ : ∃W,W=wr:=⟨_,rfl⟩
   go_loopw [6,27] (fun v i wr=>∃ (j m g cap:Nat),j<=k/\m<=t/\i=.int .i64 j/\v=.slice (some ⟨g,0,none⟩) m cap/\Hid (m=((ps.take j).flatten).length)/\Hid (OwnT w0.heap.size wr (.slice (some ⟨g,0,none⟩) m cap) ((ps.take j).flatten))/\Below w0.heap.size w0 wr) (fun _ i _=>k-(intOf i).toNat)
   case atStart=>exact⟨0,0,g,cap,by omega,by omega,by simp,rfl,kH (by simp),O1,hw1⟩
   case round=>
    clear O1 hw1
    obtain⟨j,m,g,cap,hj,hmt,rfl,rfl,hm,O,hw⟩:=hrel
    have hz:=hw.size
    by_cases hlt2:j<k
    ·obtain⟨b1,o1,l,r,_,rfl,P1,⟨v1,rfl,hl⟩,r1⟩:=(tK.out _ hw).get hn.out hlt2
     have e_0:wr.cell? ⟨b1,o1+j,none⟩=some v1:=by simpa using r1 0 _ rfl
     obtain⟨a1,c1,rfl⟩:=hl.form
     have hst:=flat_take P1.out
     have hle:=hfl.out (j+1)
     rw[hst,List.length_append,<- hm.out]at hle
     have hown:=O.out.1
     rw[<- hm.out]at hown
     have hmb:m<=10000000:=by omega
     generalize (ps.take j).flatten=zs at *
     replace hst:=kH hst;replace hl:=kH hl;replace hown:=kH hown;replace hle:=kH hle
     clear r1
     go_wp2_with (at_builtin;refine wpList_append_sl _ flatTyItem rfl _ _ _ rfl w0.heap.size 107 iI _ 32 Tryz.underlying31 II.out II0.out II1.out II2.out rfl g cap m (rowsOf tyRow zs) rfl hown.out lo _ l rfl hl.out (by have:=hle.out;unfold maxLen;omega) (by have:=hle.out;omega) hz ?_;intro g2 cap2 w2 hown2 hgrow hg2)
     have y1:=ownT_app O.out hm.out rfl (flatTyItem.wfs hl.out) rfl hown2
     have y2:=below_grown2 (wr:=wr) (base:=w0.heap.size) hgrow (Below.refl _ _) hw hz hown.out
     go_roundw
     case rel=>exact⟨j+1,m+l.length,g2,cap2,by omega,hle.out,by go_num,rfl,kH (by rw[hst.out,List.length_append,<- hm.out]),kH (by rw[hst.out];exact y1),y2⟩
     case measure=>simp[intOf];omega
    ·obtain rfl:j=k:=by omega
     have OT:=O.out
     rw[hft.out j (Nat.le_refl _)]at OT
     replace OT:=kH OT
     go_wp2_with fail
     exact hpost.out _ _ OT.out hw
end Go.Proofs.YtkikkfjmggobpaaGreat
namespace Go.Proofs.YtkikkfjmggobpaaGreat
open Go.RowKit
set_option linter.unusedVariables false
set_option linter.unusedSimpArgs false
structure SubV where
 k:Int
 a:Option Addr
 n:Nat
 c:Nat
def subRow (p:SubV):List Value:=[.int .i64 p.k,.slice p.a p.n p.c]
def SubV.v (p:SubV):Value:=.slice p.a p.n p.c
def SubVR:Reading SubV:=fun _ _ r p=>r=subRow p/\I64 p.k
theorem flatSubV:Flat SubVR 2 subRow (fun p=>I64 p.k):=⟨fun h=>h,fun h _ _=>⟨rfl,h⟩,fun _=>rfl,fun _ u hu=>by simp[subRow]at hu;rcases hu with rfl|rfl<;>rfl,by decide⟩
theorem sl_kept2 {α:Type} {R:Reading α} {sz lo:Nat} {f:α->List Value} {wf:α->Prop} (F:Flat R sz f wf) {S:Nat->Prop} {w w' : World} {u:Value} {xs:List α} (h:Sl R sz lo w u xs) (hk:Kept S w w') (hS:∀b,u.ownBlock=some b->¬ S b):Sl R sz lo w' u xs:=by
 have hwf:=F.wfs h
 obtain⟨a,c,rfl,h1,h2,h3⟩:=h
 refine⟨a,c,rfl,h1,h2,fun h0=>?_⟩
 obtain⟨b,off,hl,hb,rfl,hr⟩:=F.cells h3 h0
 have hr':=hr.kept hk (hS b rfl)
 exact⟨b,off,hl,rfl,fun i x hx=>⟨f x,F.back (hwf x (List.mem_of_getElem? hx)) _ _,fun j c hc=>by rw[Nat.add_assoc];exact hr' _ c (F.get hx hc)⟩⟩
structure SbO (B lo:Nat) (w:World) (ov:Value) (ps:List SubV) (τ:Sbs):Prop where
 own:OwnF 119 2 subRow (fun p=>I64 p.k) B w ov ps
 len:ps.length=τ.length
 rd:∀ (i:Nat) p q,ps[i]? = some p->τ[i]? = some q->p.k=q.1/\Sl GTyItem.R 3 lo w p.v (flatY q.2)/\∀g,ov.ownBlock=some g->p.v.ownBlock≠some g
theorem SbO.below {B lo:Nat} {w w' : World} {ov:Value} {ps:List SubV} {τ:Sbs} (h:SbO B lo w ov ps τ) (hb:Below w.heap.size w w'):SbO B lo w' ov ps τ:=
 ⟨h.own.below hb,h.len,fun i p q h1 h2=>let ⟨a,b,c⟩:=h.rd i p q h1 h2;⟨a,b.below GTyItem.good hb,c⟩⟩
theorem SbO.sl {B lo:Nat} {w:World} {ov:Value} {ps:List SubV} {τ:Sbs} (h:SbO B lo w ov ps τ) (hlo:lo<=B):Sl SubR 2 lo w ov τ:=by
 obtain⟨a,c,hv,h1,h2,h3⟩:=h.own.sl flatSubV
 rw[h.len]at hv h1
 refine⟨a,c,hv,h1,h2,fun h0=>?_⟩
 obtain⟨b,off,h4,h5,h6⟩:=h3 (by rw[h.len];exact h0)
 refine⟨b,off,Nat.le_trans hlo h4,h5,fun i q hq=>?_⟩
 obtain⟨p,hp⟩ : ∃p,ps[i]? = some p:=⟨_,List.getElem?_eq_getElem (by have:=(List.getElem?_eq_some_iff.1 hq).1;have:=h.len;omega)⟩
 obtain⟨r,⟨rfl,h64⟩,h7⟩:=h6 i p hp
 obtain⟨h8,h9,-⟩:=h.rd i p q hp hq
 exact⟨_,⟨p.v,by rw[<- h8];rfl,by rw[<- h8];exact h64,h9⟩,h7⟩
theorem SbO.nil {B lo:Nat} {w:World} {ov:Value} (h:OwnF 119 2 subRow (fun p=>I64 p.k) B w ov []):SbO B lo w ov [] []:=⟨h,rfl,fun i p q h=>by simp at h⟩
theorem SbO.push {B lo g2 cap2 vn:Nat} {w w1 w6:World} {ov:Value} {ps:List SubV} {τ:Sbs} {p:SubV} {q:Int × TyT} (h:SbO B lo w ov ps τ) (hvn:vn=ps.length) (hb:Below w.heap.size w w1)
  (hown:w6.ownsRow B 119 2 (.slice (some ⟨g2,0,none⟩) (vn+1) cap2) (vn+1) (rowsOf subRow ps++subRow p)) (hgrow:w1.grownBy w6 ov.ownBlock) (hat:ov.ownBlock=some g2\/w1.heap.size<=g2)
  (hk:p.k=q.1) (h64:I64 p.k) (hr:Sl GTyItem.R 3 lo w1 p.v (flatY q.2)) (hlt:∀b,p.v.ownBlock=some b->b<w1.heap.size) (hne:∀g,ov.ownBlock=some g->p.v.ownBlock≠some g) :
  SbO B lo w6 (.slice (some ⟨g2,0,none⟩) (vn+1) cap2) (ps ++ [p]) (τ ++ [q]):=by
 have k6:=kept_grown hgrow
 have k6':=kept_of hgrow hb
 refine⟨⟨?_,fun x hx=>?_⟩,by rw[List.length_append,List.length_append,h.len];rfl,fun i p' q' h1 h2=>?_⟩
 ·rw[List.length_append,<- hvn,rowsOf_append,rowsOf_one];exact hown
 ·rcases List.mem_append.1 hx with hx|hx
  ·exact h.own.2 x hx
  ·simp only[List.mem_singleton]at hx;rw[hx];exact h64
 ·have hg2:∀ (u:Value),(∀b,u.ownBlock=some b->b<w1.heap.size)->(∀g,ov.ownBlock=some g->u.ownBlock≠some g)->∀g,(Value.slice (some ⟨g2,0,none⟩) (vn+1) cap2).ownBlock=some g->u.ownBlock≠some g:=fun u h3 h4 g hg e=>by
   obtain rfl:g2=g:=by simpa [Value.ownBlock] using hg
   rcases hat with h5|h5
   ·exact h4 g2 h5 e
   ·have:=h3 g2 e;omega
  rcases Nat.lt_trichotomy i ps.length with hi|hi|hi
  ·rw[List.getElem?_append_left hi]at h1
   rw[List.getElem?_append_left (by rw[<- h.len];exact hi)]at h2
   obtain⟨h3,h4,h5⟩:=h.rd i p' q' h1 h2
   refine⟨h3,sl_kept2 flatTyItem h4 k6' (fun b hb' e=>h5 b e.symm hb'),hg2 _ (fun b hb'=>?_) h5⟩
   obtain⟨a,c,hv,_,_,h8⟩:=h4
   by_cases h0:0<(flatY q'.2).length
   ·obtain⟨b2,off,_,rfl,h9⟩:=h8 h0
    rw[hv]at hb'
    obtain rfl:b2=b:=by simpa [Value.ownBlock] using hb'
    obtain⟨y,hy⟩ : ∃y,(flatY q'.2)[0]? = some y:=⟨_,List.getElem?_eq_getElem h0⟩
    obtain⟨r,⟨rfl,_⟩,h10⟩:=h9 0 y hy
    have:=World.block_lt_of_cell? _ _ (h10 0 _ rfl)
    have hz:=hb.size
    dsimp only at this;omega
   ·rw[flatY_len]at h0
    exact absurd (szY_pos _) h0
  ·subst hi
   rw[List.getElem?_append_right (Nat.le_refl _)]at h1
   rw[List.getElem?_append_right (by rw[h.len];exact Nat.le_refl _),<- h.len]at h2
   simp at h1 h2
   subst h1 h2
   exact⟨hk,sl_kept2 flatTyItem hr k6 (fun b hb' e=>hne b e.symm hb'),hg2 _ hlt hne⟩
  ·rw[List.getElem?_eq_none (by rw[List.length_append];simp;omega)]at h1;cases h1
theorem insS_done {n:Int} {u:TyT} : ∀ {L M:Sbs},(∃q∈L,n<q.1)->insS n u (L++M)=insS n u L++M
 |[],_,h=>by obtain⟨q,hq,_⟩:=h;cases hq
 |p :: L,M,h=>by
  rw[List.cons_append]
  unfold insS
  split
  ·rfl
  ·rename_i hp
   rw[insS_done (L:=L) (M:=M) (by
    obtain⟨q,hq,hl⟩:=h
    rcases List.mem_cons.1 hq with rfl|hq
    ·exact absurd hl hp
    ·exact⟨q,hq,hl⟩)]
   rfl
theorem insS_not {n:Int} {u:TyT} : ∀ {L M:Sbs},(∀q∈L,¬ n<q.1)->insS n u (L++M)=L++insS n u M
 |[],_,_=>rfl
 |p :: L,M,h=>by
  rw[List.cons_append,insS,if_neg (h p (by simp)),insS_not fun q hq=>h q (by simp[hq])]
  rfl
theorem sz_sub1 (n:Int) (u:TyT):∀t,szY (subY [(n,u)] t)<=szY u*szY t
 |.v m=>by
  unfold subY
  rw[getS_one]
  have:=szY_pos u
  split<;>simp[szY]
  omega
 |.c0 s=>by have:=szY_pos u;simp only[subY,szY];omega
 |.c1 s a=>by have:=sz_sub1 n u a;have:=szY_pos u;simp only[subY,szY,Nat.mul_add,Nat.mul_one];omega
 |.c2 s a b=>by have:=sz_sub1 n u a;have:=sz_sub1 n u b;have:=szY_pos u;simp only[subY,szY,Nat.mul_add,Nat.mul_one];omega
def bndL (σ:Sbs) (n:Int) (u:TyT) (j:Nat) (dn:Bool):Sbs:=if dn=true then insS n u (mapS n u (σ.take j)) else mapS n u (σ.take j)
def BndOk (σ:Sbs) (n:Int) (j:Nat) (dn:Bool):Prop:=(dn=true->∃q∈σ.take j,n<q.1)/\(dn=false->∀q∈σ.take j,¬ n<q.1)
theorem mapS_snoc {n:Int} {u:TyT} {σ:Sbs} {j:Nat} {p:Int × TyT} (hp:σ[j]? = some p):mapS n u (σ.take (j+1))=mapS n u (σ.take j) ++ [(p.1,subY [(n,u)] p.2)]:=by
 unfold mapS
 rw[List.take_add_one,hp,Option.toList_some,List.map_append];rfl
theorem mapS_keys {n:Int} {u:TyT} {l:Sbs} {P:Int->Prop} : (∃q∈mapS n u l,P q.1) ↔ ∃q∈l,P q.1:=by
 constructor
 ·rintro ⟨q,hq,h⟩
  obtain⟨r,hr,rfl⟩:=mapS_mem hq
  exact⟨r,hr,h⟩
 ·rintro ⟨q,hq,h⟩
  exact⟨_,List.mem_map_of_mem hq,h⟩
theorem bnd_done {σ:Sbs} {n:Int} {u:TyT} {j:Nat} {p:Int × TyT} (h:BndOk σ n j true) (hp:σ[j]? = some p):bndL σ n u (j+1) true=bndL σ n u j true ++ [(p.1,subY [(n,u)] p.2)]/\BndOk σ n (j+1) true:=by
 obtain⟨q,hq,hl⟩:=h.1 rfl
 refine⟨?_,fun _=>⟨q,?_,hl⟩,fun h=>by cases h⟩
 ·unfold bndL
  rw[if_pos rfl,if_pos rfl,mapS_snoc hp,insS_done (mapS_keys.2 ⟨q,hq,hl⟩)]
 ·rw[List.take_add_one,List.mem_append];exact .inl hq
theorem bnd_not {σ:Sbs} {n:Int} {u:TyT} {j:Nat} {p:Int × TyT} (h:BndOk σ n j false) (hp:σ[j]? = some p) (hl : ¬ n<p.1):bndL σ n u (j+1) false=bndL σ n u j false ++ [(p.1,subY [(n,u)] p.2)]/\BndOk σ n (j+1) false:=by
 refine⟨?_,fun h=>(by cases h),fun _ q hq=>?_⟩
 ·unfold bndL
  rw[if_neg (by simp),if_neg (by simp),mapS_snoc hp]
 ·rw[List.take_add_one,hp,Option.toList_some,List.mem_append]at hq
  rcases hq with hq|hq
  ·exact h.2 rfl q hq
  ·simp only[List.mem_singleton]at hq;subst hq;exact hl
theorem bnd_hit {σ:Sbs} {n:Int} {u:TyT} {j:Nat} {p:Int × TyT} (h:BndOk σ n j false) (hp:σ[j]? = some p) (hl:n<p.1):bndL σ n u (j+1) true=bndL σ n u j false ++ [(n,u)] ++ [(p.1,subY [(n,u)] p.2)]/\BndOk σ n (j+1) true:=by
 refine⟨?_,fun _=>⟨p,?_,hl⟩,fun h=>by cases h⟩
 ·unfold bndL
  rw[if_pos rfl,if_neg (by simp),mapS_snoc hp,insS_not (fun q hq=>?_)]
  ·rw[insS,if_pos hl,List.append_assoc];rfl
  ·obtain⟨r,hr,rfl⟩:=mapS_mem hq
   exact h.2 rfl r hr
 ·rw[List.take_add_one,hp,Option.toList_some,List.mem_append];exact .inr (by simp)
theorem bnd_end {σ:Sbs} {n:Int} {u:TyT} {dn:Bool} (h:BndOk σ n σ.length dn):(dn=true->insS n u (mapS n u σ)=bndL σ n u σ.length true)/\(dn=false->insS n u (mapS n u σ)=bndL σ n u σ.length false ++ [(n,u)]):=by
 refine⟨fun _=>by unfold bndL;rw[if_pos rfl,List.take_length],fun e=>?_⟩
 unfold bndL
 rw[if_neg (by simp),List.take_length]
 have:=insS_not (n:=n) (u:=u) (L:=mapS n u σ) (M:=[]) fun q hq=>by
  obtain⟨r,hr,rfl⟩:=mapS_mem hq
  exact h.2 e r (by rw[List.take_length];exact hr)
 rw[List.append_nil]at this
 rw[this];rfl
theorem bnd_len {σ:Sbs} {n:Int} {u:TyT} {j:Nat} {dn:Bool} : (bndL σ n u j dn).length<=j+1:=by
 have h:(mapS n u (σ.take j)).length<=j:=by unfold mapS;rw[List.length_map,List.length_take];omega
 unfold bndL
 split
 ·rw[insS_len];omega
 ·omega
def kidsY:TyT->List TyT
 |.v _=>[]
 |.c0 _=>[]
 |.c1 _ a=>[a]
 |.c2 _ a b=>[a,b]
def hdY:TyT->GTyItem
 |.v n=>⟨n,⟨#[]⟩,0⟩
 |.c0 s=>⟨0,s,0⟩
 |.c1 s _=>⟨0,s,1⟩
 |.c2 s _ _=>⟨0,s,2⟩
def flatYs (l:List TyT):List GTyItem:=l.flatMap flatY
theorem flatYs_nil:flatYs []=[]:=rfl
theorem flatYs_cons (a:TyT) (l:List TyT):flatYs (a :: l)=flatY a++flatYs l:=rfl
theorem flatYs_append (l m:List TyT):flatYs (l++m)=flatYs l++flatYs m:=List.flatMap_append
theorem flatY_kids (t:TyT):flatY t=hdY t :: flatYs (kidsY t):=by cases t<;>simp[flatY,hdY,kidsY,flatYs]
theorem hdY_arity (t:TyT):(hdY t).arity=(kidsY t).length:=by cases t<;>rfl
theorem kidsY_len (t:TyT):(kidsY t).length<=2:=by cases t<;>simp[kidsY]
theorem flatY_at {t:TyT} {j:Nat} {k:TyT} (h:(kidsY t)[j]? = some k):flatY t=(hdY t :: flatYs ((kidsY t).take j))++(flatY k++flatYs ((kidsY t).drop (j+1))):=by
 rw[flatY_kids]
 have h1:kidsY t=(kidsY t).take j++(k :: (kidsY t).drop (j+1)):=by
  obtain⟨hj,rfl⟩:=List.getElem?_eq_some_iff.1 h
  rw[<- List.drop_eq_getElem_cons hj,List.take_append_drop]
 conv=>lhs;rw[h1]
 rw[flatYs_append,flatYs_cons]
 rfl
def posY (t:TyT) (j:Nat):Nat:=1+(flatYs ((kidsY t).take j)).length
theorem posY_zero (t:TyT):posY t 0=1:=rfl
theorem posY_len (t:TyT) (j:Nat):posY t j=(hdY t :: flatYs ((kidsY t).take j)).length:=by rw[List.length_cons];unfold posY;omega
theorem posY_succ {t:TyT} {j:Nat} {k:TyT} (h:(kidsY t)[j]? = some k):posY t (j+1)=posY t j+szY k:=by
 unfold posY
 rw[List.take_add_one,h,Option.toList_some,flatYs_append,List.length_append,flatYs_cons,flatYs_nil,List.append_nil,flatY_len];omega
theorem posY_le (t:TyT) (j:Nat):posY t j<=szY t:=by
 have h2:flatYs (kidsY t)=flatYs ((kidsY t).take j)++flatYs ((kidsY t).drop j):=by rw[<- flatYs_append,List.take_append_drop]
 rw[<- flatY_len,flatY_kids,List.length_cons,h2,List.length_append]
 unfold posY
 omega
theorem kidsY_sz {t k:TyT} (h:k∈kidsY t):szY k<szY t:=by
 cases t<;>simp[kidsY]at h
 ·subst h;simp[szY]
 ·rcases h with rfl|rfl<;>simp only[szY]<;>omega
theorem kidsY_occ {t k:TyT} (h:k∈kidsY t) {n:Int} (hn:occY n k=true):occY n t=true:=by
 cases t<;>simp[kidsY]at h
 ·subst h;exact hn
 ·rcases h with rfl|rfl<;>simp[occY,hn]
theorem kidsY_names {t k:TyT} (h:k∈kidsY t) (hn:NamesY t):NamesY k:=by
 cases t<;>simp[kidsY]at h
 ·subst h;exact hn.2
 ·rcases h with rfl|rfl
  ·exact hn.2.1
  ·exact hn.2.2
def unifyKs (f:Nat):List TyT->List TyT->Sbs->Option (Int × Sbs)
 |a :: l,b :: m,σ=>match unifyF f a b σ with
  |none=>none
  |some (c,τ)=>if c=0 then unifyKs f l m τ else some (c,[])
 |_,_,σ=>some (0,σ)
theorem unifyF_err:∀ (f:Nat) (x y:TyT) (σ:Sbs) (c:Int) (τ:Sbs),unifyF f x y σ=some (c,τ)->c≠0->τ=[]
 |0,x,y,σ,c,τ,h,_=>by simp[unifyF]at h
 |f+1,x,y,σ,c,τ,h,hc=>by
  have hb:∀n u,some (bindY σ n u)=some (c,τ)->τ=[]:=fun n u h=>by
   have h:=Option.some.inj h
   unfold bindY at h
   split at h
   ·exact(Prod.mk.inj h).2.symm
   ·split at h
    ·exact(Prod.mk.inj h).2.symm
    ·exact absurd (Prod.mk.inj h).1.symm hc
  have h2:some ((2:Int),([] : Sbs))=some (c,τ)->τ=[]:=fun h=>(Prod.mk.inj (Option.some.inj h)).2.symm
  have h0:some ((0:Int),σ)=some (c,τ)->τ=[]:=fun h=>absurd (Prod.mk.inj (Option.some.inj h)).1.symm hc
  unfold unifyF at h
  generalize subY σ x=X at h
  generalize subY σ y=Y at h
  cases X<;>cases Y<;>dsimp only at h
  case v.v a b=>split at h;exact h0 h;split at h<;>exact hb _ _ h
  case c0.c0=>split at h;exact h0 h;exact h2 h
  case c1.c1=>
   split at h
   ·exact unifyF_err f _ _ _ _ _ h hc
   ·exact h2 h
  case c2.c2 s a b s' a' b'=>
   split at h
   ·cases h1:unifyF f a a' σ with
    |none=>rw[h1]at h;cases h
    |some q=>
     obtain⟨c1,τ1⟩:=q
     rw[h1]at h
     dsimp only at h
     split at h
     ·exact unifyF_err f _ _ _ _ _ h hc
     ·exact(Prod.mk.inj (Option.some.inj h)).2.symm
   ·exact h2 h
  all_goals first|exact hb _ _ h|exact h2 h
def stepY (X Y:TyT) (σ:Sbs) (ks:Option (Int × Sbs)):Option (Int × Sbs):=
 if (hdY X).name.toList.isEmpty=true/\(hdY Y).name.toList.isEmpty=true/\(hdY X).var=(hdY Y).var then some (0,σ)
 else if (hdY X).name.toList.isEmpty=true/\((hdY Y).name.toList.isEmpty=false\/(hdY Y).var<(hdY X).var) then some (bindY σ (hdY X).var Y)
 else if (hdY Y).name.toList.isEmpty=true then some (bindY σ (hdY Y).var X)
 else if (hdY X).name≠(hdY Y).name\/(hdY X).arity≠(hdY Y).arity then some (2,[]) else ks
theorem unifyF_step (f:Nat) (x y:TyT) (σ:Sbs) (hX:NamesY (subY σ x)) (hY:NamesY (subY σ y)):unifyF (f+1) x y σ=stepY (subY σ x) (subY σ y) σ (unifyKs f (kidsY (subY σ x)) (kidsY (subY σ y)) σ):=by
 unfold unifyF stepY
 generalize subY σ x=X at *
 generalize subY σ y=Y at *
 have one:∀a b,unifyKs f [a] [b] σ=unifyF f a b σ:=fun a b=>by
  unfold unifyKs
  cases h:unifyF f a b σ with
  |none=>rfl
  |some q=>
   obtain⟨c,τ⟩:=q
   dsimp only
   split
   ·rename_i hc;subst hc;rfl
   ·rename_i hc;rw[unifyF_err f a b σ c τ h hc]
 have two:∀a b a' b',unifyKs f [a,b] [a',b'] σ=(match unifyF f a a' σ with
    |none=>none
    |some (c,τ)=>if c=0 then unifyF f b b' τ else some (c,[])):=fun a b a' b'=>by
  rw[unifyKs]
  cases h:unifyF f a a' σ with
  |none=>rfl
  |some q=>
   obtain⟨c,τ⟩:=q
   dsimp only
   split
   ·unfold unifyKs
    cases h1:unifyF f b b' τ with
    |none=>rfl
    |some q=>
     obtain⟨c1,τ1⟩:=q
     dsimp only
     split
     ·rename_i hc;subst hc;rfl
     ·rename_i hc;rw[unifyF_err f b b' τ c1 τ1 h1 hc]
   ·rfl
 cases X<;>cases Y<;>simp only[hdY,kidsY,empB,true_and,and_true,true_or]<;>(try simp only[NamesY]at hX)<;>(try simp only[NamesY]at hY)
 case v.v a b=>
  by_cases h1:a=b
  ·rw[if_pos h1,if_pos h1]
  ·rw[if_neg h1,if_neg h1]
   by_cases h2:a<b
   ·rw[if_pos h2,if_neg (by simp;omega),if_pos trivial]
   ·rw[if_neg h2,if_pos (Or.inr (by omega))]
 all_goals simp only[hX,hY,Bool.false_eq_true,false_and,and_false,if_false,true_or,or_true,if_true,if_pos,ne_eq,not_true_eq_false,or_false]
 case c0.c0 s s'=>by_cases h:s=s'<;>simp[h,unifyKs]
 case c1.c1 s a s' a'=>rw[one];by_cases h:s=s'<;>simp[h]
 case c2.c2 s a b s' a' b'=>
  rw[two]
  by_cases h:s=s'
  ·simp only[h,ne_eq,not_true_eq_false,if_false,if_true]
   cases unifyF f a a' σ<;>rfl
  ·simp[h]
 all_goals simp
theorem subY_sz {σ:Sbs} : ∀t,szY t<=szY (subY σ t)
 |.v n=>szY_pos _
 |.c0 s=>Nat.le_refl _
 |.c1 s a=>by have:=subY_sz (σ:=σ) a;simp only[subY,szY];omega
 |.c2 s a b=>by have:=subY_sz (σ:=σ) a;have:=subY_sz (σ:=σ) b;simp only[subY,szY];omega
theorem unifyF_good {N:Int} (hN:0<=N) {f:Nat} {x y:TyT} {σ τ:Sbs} {c:Int} (hσ:GoodS N σ) (hx:VarsIn N x) (hy:VarsIn N y) (h:unifyF f x y σ=some (c,τ)) (hc:c=0):GoodS N τ/\ExtS σ τ:=by
 obtain⟨f',c',τ',h1,h2⟩:=unify_total hN (N-σ.length).toNat (szY (subY σ x)) x y σ hσ hx hy (by omega) (Nat.le_refl _)
 have e:=(unifyF_le (Nat.le_max_left f f') h).symm.trans (unifyF_le (Nat.le_max_right f f') h1)
 obtain⟨rfl,rfl⟩:=Prod.mk.inj (Option.some.inj e)
 exact⟨(h2 hc).1,(h2 hc).2.1⟩
theorem bindY_names {σ τ:Sbs} {n:Int} {u:TyT} {c:Int} (hσ:NamesS σ) (hu:NamesY u) (h:bindY σ n u=(c,τ)):NamesS τ:=by
 unfold bindY at h
 split at h
 ·rw[<- (Prod.mk.inj h).2];intro p hp;cases hp
 ·split at h
  ·rw[<- (Prod.mk.inj h).2];intro p hp;cases hp
  ·rw[<- (Prod.mk.inj h).2];exact names_ins hσ hu
theorem unifyF_names:∀ (f:Nat) (x y:TyT) (σ:Sbs) (c:Int) (τ:Sbs),NamesS σ->NamesY x->NamesY y->unifyF f x y σ=some (c,τ)->NamesS τ
 |0,x,y,σ,c,τ,_,_,_,h=>by simp[unifyF]at h
 |f+1,x,y,σ,c,τ,hσ,hx,hy,h=>by
  have hX:=names_sub hσ x hx
  have hY:=names_sub hσ y hy
  rw[unifyF_step f x y σ hX hY]at h
  generalize subY σ x=X at *
  generalize subY σ y=Y at *
  have ks:∀ (l m:List TyT) (σ:Sbs) (c:Int) (τ:Sbs),NamesS σ->(∀k∈l,NamesY k)->(∀k∈m,NamesY k)->unifyKs f l m σ=some (c,τ)->NamesS τ:=fun l=>by
   induction l with
   |nil=>intro m σ c τ h1 _ _ h;unfold unifyKs at h;rw[<- (Prod.mk.inj (Option.some.inj h)).2];exact h1
   |cons a l ih=>
    intro m σ c τ h1 h2 h3 h
    cases m with
    |nil=>unfold unifyKs at h;rw[<- (Prod.mk.inj (Option.some.inj h)).2];exact h1
    |cons b m=>
     rw[unifyKs]at h
     cases hq:unifyF f a b σ with
     |none=>rw[hq]at h;cases h
     |some q=>
      obtain⟨c1,τ1⟩:=q
      rw[hq]at h
      dsimp only at h
      split at h
      ·exact ih m τ1 c τ (unifyF_names f a b σ c1 τ1 h1 (h2 a (by simp)) (h3 b (by simp)) hq) (fun k hk=>h2 k (by simp[hk])) (fun k hk=>h3 k (by simp[hk])) h
      ·rw[<- (Prod.mk.inj (Option.some.inj h)).2];intro p hp;cases hp
  unfold stepY at h
  split at h
  ·rw[<- (Prod.mk.inj (Option.some.inj h)).2];exact hσ
  ·split at h
   ·exact bindY_names hσ hY (Option.some.inj h)
   ·split at h
    ·exact bindY_names hσ hX (Option.some.inj h)
    ·split at h
     ·rw[<- (Prod.mk.inj (Option.some.inj h)).2];intro p hp;cases hp
     ·exact ks _ _ _ _ _ hσ (fun k hk=>kidsY_names hk hX) (fun k hk=>kidsY_names hk hY) h
def SmY (σ:Sbs) (x:TyT):Prop:=szY x<=40000/\∃s,szY s<=200/\∀τ,ExtS σ τ->subY τ x=subY τ s
theorem SmY.of {σ:Sbs} {x:TyT} (h:szY x<=200):SmY σ x:=⟨by omega,x,h,fun _ _=>rfl⟩
theorem SmY.ext {σ τ:Sbs} {x:TyT} (h:SmY σ x) (he:ExtS σ τ):SmY τ x:=⟨h.1,let ⟨s,h1,h2⟩:=h.2;⟨s,h1,fun ρ hr=>h2 ρ (he.trans hr)⟩⟩
theorem SmY.sz {N:Int} {σ:Sbs} {x:TyT} (h:SmY σ x) (hσ:GoodS N σ):szY (subY σ x)<=40000:=by
 obtain⟨s,h1,h2⟩:=h.2
 rw[h2 σ (ExtS.refl hσ)]
 have:=sz_sub hσ.sz s
 omega
theorem SmY.kid {N:Int} {σ:Sbs} {x k:TyT} (h:SmY σ x) (hσ:GoodS N σ) (hk:k∈kidsY (subY σ x)):SmY σ k:=by
 have h0:=h.sz hσ
 have h3:=kidsY_sz hk
 refine⟨by omega,?_⟩
 obtain⟨s,h1,h2⟩:=h.2
 rw[h2 σ (ExtS.refl hσ)]at hk
 cases s with
 |v n=>
  unfold subY at hk
  cases hg:getS σ n with
  |none=>rw[hg]at hk;simp[kidsY]at hk
  |some u=>
   rw[hg]at hk
   have:=hσ.sz _ (getS_some hg)
   have:=kidsY_sz hk
   exact⟨k,by dsimp only at *;simp at *;omega,fun _ _=>rfl⟩
 |c0 s=>simp[subY,kidsY]at hk
 |c1 s a=>
  simp only[subY,kidsY,List.mem_singleton]at hk
  subst hk
  exact⟨a,by simp only[szY]at h1;omega,fun τ hτ=>hτ a⟩
 |c2 s a b=>
  simp only[subY,kidsY,List.mem_cons,List.not_mem_nil,or_false]at hk
  rcases hk with rfl|rfl
  ·exact⟨a,by simp only[szY]at h1;omega,fun τ hτ=>hτ a⟩
  ·exact⟨b,by simp only[szY]at h1;omega,fun τ hτ=>hτ b⟩
end Go.Proofs.YtkikkfjmggobpaaGreat

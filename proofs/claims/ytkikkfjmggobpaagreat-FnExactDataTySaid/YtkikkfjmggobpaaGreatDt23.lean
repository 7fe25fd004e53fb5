/- Parts of the proof, merged: Ut4, Ut7, DtY. -/
import Derived.Test.YtkikkfjmggobpaaGreatDt22
namespace Go.Proofs.YtkikkfjmggobpaaGreat
open Go.RowKit
set_option maxRecDepth 100000
set_option maxHeartbeats 16000000
set_option linter.unusedVariables false
set_option linter.unusedSimpArgs false
attribute [local go_sem] Ext.cell
theorem flatYs_ge:∀ts:List TyT,ts.length<=(flatYs ts).length
 |[]=>Nat.zero_le _
 |t :: ts=>by have:=flatYs_ge ts;have:=szY_pos t;rw[flatYs_cons,List.length_append,flatY_len,List.length_cons];omega
theorem spanOf_c (A B:List GTyItem) (t:TyT) (hB:(A++(flatY t++B)).length<=1000000000) (k:Nat) (hk:k=A.length) (tv:Value) (lo:Nat) (w:World) (ht:Sl GTyItem.R 3 lo w tv (A++(flatY t++B))) :
  Calls Tryz.prog 175 #[tv,.int .i64 k] w fun e w'=>e=.returned (.int .i64 ((k+szY t:Nat):Int))/\w' = w:=by
 obtain⟨ta,c,rfl,tl,tm,t0⟩:=ht
 have hat0:(A++(flatY t++B)).drop k=flatYs [t] ++ B:=by rw[hk,List.drop_left];simp[flatYs]
 have hE0:k+(flatYs [t]).length=k+szY t:=by simp[flatYs,flatY_len]
 have hEl:k+szY t<=(A++(flatY t++B)).length:=by rw[hk,List.length_append,List.length_append,flatY_len];omega
 obtain⟨E,hE⟩ : ∃E,E=k+szY t:=⟨_,rfl⟩
 obtain⟨n,hn⟩ : ∃x,x=(A++(flatY t++B)).length:=⟨_,rfl⟩
 rw[<- hE]at hE0 hEl ⊢
 rw[<- hn]at hEl tl hB ⊢
 obtain⟨L,hL⟩ : ∃L,L=A++(flatY t++B):=⟨_,rfl⟩
 rw[<- hL]at hn hat0 t0
 have hstep:∀ (p:Nat) (ts:List TyT),L.drop p=flatYs ts++B->p+(flatYs ts).length=E->0<ts.length->p<n/\∃ (x:GTyItem) (ts' : List TyT),L[p]? = some x/\L.drop (p+1)=flatYs ts' ++ B/\p+1+(flatYs ts').length=E/\(ts.length:Int)-1+x.arity=(ts'.length:Int)/\0<=x.arity/\x.arity<=2:=fun p ts h1 h2 h3=>by
  match ts,h3 with
  |t :: ts,_=>
   rw[flatYs_cons,flatY_kids,List.cons_append,List.cons_append]at h1
   have hp:L[p]? = some (hdY t):=by have:=congrArg (fun l=>l[0]?) h1;simpa [List.getElem?_drop] using this
   have hd:L.drop (p+1)=flatYs (kidsY t++ts)++B:=by
    have:=congrArg (List.drop 1) h1
    rw[List.drop_drop,Nat.add_comm]at this
    rw[flatYs_append,Nat.add_comm,this];simp
   have hlen:(flatYs (t :: ts)).length=1+(flatYs (kidsY t++ts)).length:=by
    rw[flatYs_cons,flatY_kids,flatYs_append];simp only[List.length_append,List.length_cons];omega
   refine⟨by have:=(List.getElem?_eq_some_iff.1 hp).1;omega,hdY t,kidsY t++ts,hp,hd,by omega,?_⟩
   have ha:=hdY_arity t
   have hkl:=kidsY_len t
   rw[List.length_append,List.length_cons]
   omega
 have hz:∀ (p:Nat) (ts:List TyT),p+(flatYs ts).length=E->ts.length=0->p=E:=fun p ts h1 h2=>by
  rw[List.length_eq_zero_iff.1 h2]at h1;simpa [flatYs] using h1
 clear hL hE
 replace hn:=kH hn;replace hstep:=kH hstep;replace hz:=kH hz;replace t0:=kH t0;replace hat0:=kH hat0;replace hE0:=kH hE0;replace hk:=kH hk
 go_enter Tryz.func175,Tryz.ntmps175
 go_wp2_with fail
 go_loopw [1,5] (fun pv dv wr=>∃ (p:Nat) (ts:List TyT) (d:Nat),d=ts.length/\p<=E/\pv=.int .i64 p/\dv=.int .i64 d/\wr=w/\Hid (L.drop p=flatYs ts++B)/\Hid (p+(flatYs ts).length=E)) (fun pv _ _=>E-(intOf pv).toNat)
 case atStart=>exact⟨k,[t],1,rfl,by have:=hE0.out;omega,rfl,rfl,rfl,hat0,hE0⟩
 case round=>
  obtain⟨p,ts,d,hd,hpE,rfl,rfl,rfl,h1,h2⟩:=hrel
  by_cases h0:0<d
  ·obtain⟨hpn,x,ts',g1,g2,g3,g4,g5,g6⟩:=hstep.out p ts h1.out h2.out (by omega)
   obtain⟨b1,o1,y,r,_,rfl,P1,⟨rfl,hwf⟩,r1⟩:=t0.out.get hn.out hpn
   obtain rfl:x=y:=Option.some.inj (g1.symm.trans P1.out)
   obtain⟨va,nm,ar⟩:=x
   dsimp only[tyRow]at r1
   dsimp only at g4 g5 g6
   have e_2:wr.cell? ⟨b1,o1+p*3+2,none⟩=some (.int .i64 ar):=r1 2 _ rfl
   have hd' : (d:Int)-1+ar=(ts'.length:Int):=by rw[hd];exact g4
   obtain⟨d',hd2⟩ : ∃q,q=ts'.length:=⟨_,rfl⟩
   rw[<- hd2]at hd'
   clear r1 P1 g1 g4 hwf
   have hd3:d<=n:=by have:=flatYs_ge ts;have:=h2.out;omega
   have hd3' : d'<=n:=by have:=flatYs_ge ts';omega
   replace g2:=kH g2;replace g3:=kH g3;replace hd2:=kH hd2;replace hd:=kH hd
   go_wp2_with fail
   go_roundw
   case rel=>exact⟨p+1,ts',d',hd2.out,by have:=g3.out;omega,by go_num,rfl,by first|rfl|trivial,g2,g3⟩
   case measure=>have:=g3.out;simp[intOf];omega
  ·obtain rfl:d=0:=by omega
   have hpe:=hz.out p ts h2.out hd.symm
   subst hpe
   go_wp2_with fail
   go_returns
   exact⟨rfl,rfl⟩
/-! ### kidsOf -/
def KidR:Reading TyT:=fun lo w r t=>∃u,r=[u]/\Sl GTyItem.R 3 lo w u (flatY t)
theorem KidR.good:Reading.Good KidR:=⟨fun⟨u,h1,h3⟩ hb=>⟨u,h1,h3.agree GTyItem.good hb⟩,fun⟨u,h1,h3⟩ hl=>⟨u,h1,h3.mono GTyItem.good hl⟩⟩
structure PcV where
 a:Option Addr
 n:Nat
 c:Nat
def pcRow (p:PcV):List Value:=[.slice p.a p.n p.c]
def PcVR:Reading PcV:=fun _ _ r p=>r=pcRow p/\True
theorem flatPc:Flat PcVR 1 pcRow (fun _=>True):=⟨fun h=>h,fun h _ _=>⟨rfl,h⟩,fun _=>rfl,fun _ u hu=>by simp[pcRow]at hu;subst hu;rfl,by decide⟩
def KdPost (lo:Nat) (t:TyT) (w:World) (e:Ending) (w' : World):Prop:=∃v,e=.returned v/\Sl KidR 1 lo w' v (kidsY t)/\Below w.heap.size w w'
theorem info_Items:(Tryz.prog.info? 31).map (fun i=>(i.zero,i.size,i.bytes))=some (some (.slice none 0 0),1,24):=by kernel_rfl
theorem ownP_app {B g2 cap2 vn:Nat} {w w6:World} {ov:Value} {Pi:List PcV} {p:PcV} (T:OwnF 31 1 pcRow (fun _=>True) B w ov Pi) (hvn:vn=Pi.length)
  (hown:w6.ownsRow B 31 1 (.slice (some ⟨g2,0,none⟩) (vn+1) cap2) (vn+1) (rowsOf pcRow Pi ++ [.slice p.a p.n p.c])):OwnF 31 1 pcRow (fun _=>True) B w6 (.slice (some ⟨g2,0,none⟩) (vn+1) cap2) (Pi ++ [p]):=by
 refine⟨?_,fun y hy=>trivial⟩
 rw[List.length_append,<- hvn,rowsOf_append,rowsOf_one];exact hown
def pcY (t:TyT) (b o c:Nat) (j:Nat):PcV:=⟨some ⟨b,o+posY t j*3,none⟩,posY t (j+1)-posY t j,c-posY t j⟩
theorem pcY_sl {t:TyT} {b o c lo B n:Nat} {w:World} {v:Value} {ps:List PcV} (hlo:lo<=B) (ht:Sl GTyItem.R 3 lo w (.slice (some ⟨b,o,none⟩) n c) (flatY t)) (hO:OwnF 31 1 pcRow (fun _=>True) B w v ps) (hl:ps.length=(kidsY t).length) (hp:∀j p,ps[j]? = some p->p=pcY t b o c j) :
  Sl KidR 1 lo w v (kidsY t):=by
 obtain⟨a,c',hv,h1,h2,h3⟩:=hO.sl flatPc
 obtain⟨_,_,hv2,h4,h5,_⟩:=id ht
 obtain⟨rfl,rfl⟩ : n=(flatY t).length/\c=_:=by injection hv2 with e1 e2 e3;exact⟨e2,e3⟩
 refine⟨a,c',by rw[hv,hl],by rw[<- hl];exact h1,h2,fun h0=>?_⟩
 obtain⟨g,off,h6,h7,h8⟩:=h3 (by rw[hl];exact h0)
 refine⟨g,off,Nat.le_trans hlo h6,h7,fun j k hk=>?_⟩
 obtain⟨p,hpj⟩ : ∃p,ps[j]? = some p:=⟨_,List.getElem?_eq_getElem (by have:=(List.getElem?_eq_some_iff.1 hk).1;omega)⟩
 obtain⟨r,⟨rfl,-⟩,h9⟩:=h8 j p hpj
 refine⟨_,⟨_,rfl,?_⟩,h9⟩
 rw[hp j p hpj]
 have hx:=flatY_at hk
 have hlen:=posY_len t j
 have hsz:=flatY_len k
 have hle:=posY_le t (j+1)
 have hsc:=posY_succ hk
 have hfl:=flatY_len t
 have hpos:=szY_pos k
 rw[hx]at ht
 have h10:=Sl.mid (c':=c-posY t j) ht (by omega) (by omega) (by omega)
 rw[<- hlen]at h10
 show Sl GTyItem.R 3 lo w (.slice (some ⟨b,o+posY t j*3,none⟩) (posY t (j+1)-posY t j) (c-posY t j)) (flatY k)
 rw[show posY t (j+1)-posY t j=(flatY k).length by omega]
 exact h10
theorem kidsT_c (t:TyT) (hB:szY t<=1000000000) (tv:Value) (lo:Nat) (w:World) (hlo:lo<=w.heap.size) (ht:Sl GTyItem.R 3 lo w tv (flatY t)) :
  Calls Tryz.prog 156 #[tv] w (KdPost lo t w):=by
 have hpost:∀W v,Sl KidR 1 lo W v (kidsY t)->Below w.heap.size w W->KdPost lo t w (.returned v) W:=fun W v h1 h3=>⟨v,rfl,h1,h3⟩
 generalize KdPost lo t w=Q at *
 have hfl:=flatY_len t
 have H:=ht
 obtain⟨ta,c,rfl,tl,tm,t0⟩:=ht
 obtain⟨b,o,x,r,_,rfl,P1,⟨rfl,hwf⟩,r1⟩:=t0.get (kH rfl) (k:=0) (by rw[hfl];exact szY_pos t)
 obtain rfl:hdY t=x:=by have:=P1.out;rw[flatY_kids]at this;simpa using this
 have e_2:w.cell? ⟨b,o+2,none⟩=some (.int .i64 (hdY t).arity):=by have:=r1 2 _ rfl;simpa using this
 rw[hdY_arity]at e_2
 have hbl:=World.block_lt_of_cell? _ _ e_2;dsimp only at hbl
 have hkl:=kidsY_len t
 have h0n:=szY_pos t
 rw[hfl]at tl H ⊢
 have cS:∀ (j:Nat) W,Below w.heap.size w W->j<(kidsY t).length->posY t j<=posY t (j+1)/\posY t (j+1)<=szY t/\posY t j<szY t/\Calls Tryz.prog 175 #[.slice (some ⟨b,o,none⟩) (szY t) c,.int .i64 (posY t j:Nat)] W fun e w'=>e=.returned (.int .i64 (posY t (j+1):Nat))/\w' = W:=fun j W hW hj=>by
  obtain⟨k,hk⟩ : ∃k,(kidsY t)[j]? = some k:=⟨_,List.getElem?_eq_getElem hj⟩
  have h1:=H.below GTyItem.good hW
  rw[flatY_at hk]at h1
  have h2:=spanOf_c _ _ k (by rw[<- flatY_at hk,hfl];exact hB) (posY t j) (posY_len t j) _ lo W h1
  rw[posY_succ hk]
  have hle:=posY_le t (j+1)
  rw[posY_succ hk]at hle
  have:=szY_pos k
  exact⟨by omega,hle,by omega,h2⟩
 have hfin:=fun W v (ps:List PcV) (hW:Below w.heap.size w W)=>pcY_sl (t:=t) (b:=b) (o:=o) (c:=c) (lo:=lo) (B:=w.heap.size) (n:=szY t) (w:=W) (v:=v) (ps:=ps) hlo (H.below GTyItem.good hW)
 have hp0:=posY_zero t
 obtain⟨n,hn⟩ : ∃n,n=szY t:=⟨_,rfl⟩
 obtain⟨m,hm⟩ : ∃m,m=(kidsY t).length:=⟨_,rfl⟩
 rw[<- hn]at cS hB tl h0n ⊢
 rw[<- hm]at cS hkl e_2 hfin
 have hpc:∀j,pcY t b o c j=⟨some ⟨b,o+posY t j*3,none⟩,posY t (j+1)-posY t j,c-posY t j⟩:=fun j=>rfl
 generalize kidsY t=K at *
 generalize hpy:posY t=py at *
 generalize pcY t b o c=pc at *
 clear r1 t0 H P1 hwf hfl hpy hn hm
 replace cS:=kH cS;replace hfin:=kH hfin;replace hpost:=kH hpost;replace hpc:=kH hpc;replace hp0:=kH hp0
 obtain⟨iI,hi0,hz0,hz1,hz2⟩:=info_parts info_Items;have II:=kH hi0;have II0:=kH hz0;have II1:=kH hz1;have II2:=kH hz2;clear hi0 hz0 hz1 hz2
 go_enter Tryz.func156,Tryz.ntmps156
 go_upto_region 2 with fail
 obtain⟨w1,hW1⟩ : ∃W,W=w.alloc (.cells #[] 31):=⟨_,rfl⟩
 rw[<- hW1]
 have hw1:Below w.heap.size w w1:=by rw[hW1];go_grown
 have O1:OwnF 31 1 pcRow (fun _=>True) w.heap.size w1 (.slice (some ⟨w.heap.size,0,none⟩) 0 0) []:=by
  rw[hW1]
  exact⟨own_empty_at (by have h:=heap_alloc_new' w (.cells #[] 31) _ rfl;simpa using h) (Nat.le_refl _),fun x h=>by cases h⟩
 have f_2:=cell_below hw1 e_2
 generalize (Value.slice (some ⟨w.heap.size,0,none⟩) 0 0)=ov0 at *
 replace O1:=kH O1
 have hbl1:=World.block_lt_of_cell? _ _ f_2;dsimp only at hbl1
 clear hW1 e_2
 go_wp2_with fail
 go_loopw [3,4,11] (fun sv av jv wr=>∃ (j:Nat) (ps:List PcV) (ov:Value),ov=sv/\ps.length=j/\j<=m/\jv=.int .i64 j/\av=.int .i64 (py j:Nat)/\Hid (OwnF 31 1 pcRow (fun _=>True) w.heap.size wr ov ps)/\Hid (∀j p,ps[j]? = some p->p=pc j)/\Below w.heap.size w wr) (fun _ _ jv _=>m-(intOf jv).toNat)
 case atStart=>exact⟨0,[],_,rfl,rfl,by omega,rfl,by rw[hp0.out];rfl,O1,kH (fun j p h=>by simp at h),hw1⟩
 case round=>
  clear O1 hw1 f_2
  obtain⟨j,ps,ov,rfl,hj,hjm,rfl,rfl,OT,hps,hw⟩:=hrel
  have hz:=hw.size
  by_cases hlt:j<m
  ·obtain⟨q1,q2,q3,cS'⟩:=cS.out j wr hw hlt
   obtain⟨va',vc',rfl⟩:=OT.out.form
   rw[hj]at OT ⊢
   have hown:=OT.out.1
   rw[hj]at hown
   obtain⟨at_,hat_⟩ : ∃q,q=py j:=⟨_,rfl⟩
   obtain⟨en,hen⟩ : ∃q,q=py (j+1):=⟨_,rfl⟩
   have hpcj:=hpc.out j
   rw[<- hat_,<- hen]at cS' hpcj
   rw[<- hat_,<- hen]at q1
   rw[<- hen]at q2
   rw[<- hat_]at q3 ⊢
   have z1:(0:Int)<=(at_:Int):=by omega
   have z2:(at_:Int)<=(en:Int):=by omega
   have z3:(en:Int)<=(c:Int):=by omega
   have z4:(en:Int)<=(n:Int):=by omega
   have z5 : ¬ c=at_:=by omega
   replace hown:=kH hown;replace cS':=kH cS';replace hat_:=kH hat_;replace hen:=kH hen;replace hj:=kH hj;replace hpcj:=kH hpcj
   go_wp2_with (first|(go_at_call 175;(with_reducible refine(cS'.out).mono ?_);rintro e w3 ⟨rfl,rfl⟩)|(at_builtin;refine wpList_append_lies _ rfl _ _ _ rfl (w.heap.size) 31 iI _ 1 24 Tryz.underlying187 II.out II0.out II1.out II2.out rfl (by omega) (.slice va' j vc') (j) (rowsOf pcRow ps) rfl (own_below hown.out (by go_grown)) ⟨w3.heap.size,0,none⟩ 1 1 [.slice (some ⟨b,o+at_*3,none⟩) (en-at_) (c-at_)] rfl rfl (World.news_of_block (cs:=#[.slice (some ⟨b,o+at_*3,none⟩) (en-at_) (c-at_)]) (t:=31) (fr:=(0,0)) (heap_alloc_new' _ _ _ (by simp))) (by intro u hu;simp at hu;repeat' first|(subst hu;rfl)|rcases hu with hu|hu) (by omega) (by unfold maxLen;omega) (by omega) (by simp;omega) _ rfl ?_;intro g2 cap2 w6 hown6 hgrow hat hlt2))
   have hbA:Below w3.heap.size w3 (w3.alloc (.cells #[.slice (some ⟨b,o+at_*3,none⟩) (en-at_) (c-at_)] 31)):=by go_grown
   have y1:=ownP_app (p:=pc j) (OT.out.below hbA) hj.out.symm (by rw[hpcj.out];exact hown6)
   have y2:=below_grown2 (wr:=w3) (base:=w.heap.size) hgrow hbA hw hw.size hown.out
   go_roundw
   case rel=>exact⟨j+1,ps ++ [pc j],_,rfl,by simp[hj.out],by omega,by go_num,by rw[hen.out],kH y1,kH (fun i p h=>by
    rcases Nat.lt_trichotomy i ps.length with hi|hi|hi
    ·rw[List.getElem?_append_left hi]at h;exact hps.out i p h
    ·subst hi;rw[List.getElem?_append_right (Nat.le_refl _)]at h;simp at h;rw[<- h,hj.out]
    ·rw[List.getElem?_eq_none (by rw[List.length_append];simp;omega)]at h;cases h),y2⟩
   case measure=>simp[intOf];omega
  ·obtain rfl:j=m:=by omega
   have hf:=hfin.out wr ov ps hw OT.out hj hps.out
   replace hf:=kH hf
   go_wp2_with fail
   exact hpost.out _ _ hf.out hw
theorem Sl.at_ {α:Type} {R:Reading α} {sz lo n c:Nat} {w:World} {a:Option Addr} {xs:List α} (h:Sl R sz lo w (.slice a n c) xs):SlAt R sz lo w a xs:=by
 obtain⟨a',c',hv,_,_,h3⟩:=h
 injection hv with e1 e2 e3;subst e1;exact h3
theorem IFr.cell {b g o:Nat} {w w' : World} {v:Value} (h:IFr b w w') (hc:w.cell? ⟨g,o,none⟩=some v) (hg:g≠b):w'.cell? ⟨g,o,none⟩=some v:=by
 have hl:=World.block_lt_of_cell? _ _ hc
 have:=h.kept g hl hg
 unfold World.cell? at hc ⊢
 dsimp only at hc this ⊢
 rw[this];exact hc
theorem two_boxes (w:World) (A B:Array Value) (ta tb:TypeId):RowAt ((w.alloc (.cells A ta)).alloc (.cells B tb)).drew w.heap.size 0 A.toList/\RowAt ((w.alloc (.cells A ta)).alloc (.cells B tb)).drew (w.heap.size+1) 0 B.toList/\Below w.heap.size w ((w.alloc (.cells A ta)).alloc (.cells B tb)).drew:=by
 refine⟨((RowAt.box w A ta).below (w':=(w.alloc (.cells A ta)).alloc (.cells B tb)) (by go_grown)),?_,?_⟩
 ·have h:=RowAt.box (w.alloc (.cells A ta)) B tb
  simp only[World.size_alloc]at h
  exact h
 ·exact Below.drew (by go_grown)
def UnyC (b:Nat) (P0 P1 L3 L4 L5:Value) (N:Int) (f:Nat):Prop:=∀ (x y:TyT) (σ:Sbs) (r:Int × Sbs),unifyF f x y σ=some r->GoodS N σ->VarsIn N x->VarsIn N y->NamesY x->NamesY y->NamesS σ->SmY σ x->SmY σ y->
  ∀ (xv yv lv:Value) (w:World),RowAt w b 0 [P0,P1,lv,L3,L4,L5]->Wr w b 0 6->Sl GTyItem.R 3 (b+1) w xv (flatY x)->Sl GTyItem.R 3 (b+1) w yv (flatY y)->Sl SubR 2 (b+1) w lv σ->
  Calls Tryz.prog 122 #[.pointer (some ⟨b,2,none⟩),xv,yv] w (BdPost b P0 P1 L3 L4 L5 r w)
theorem unify_step {b:Nat} {P0 P1 L3 L4 L5:Value} (N:Int) (hN:0<=N) (hN2:N<=1000000) (f:Nat) (ih:UnyC b P0 P1 L3 L4 L5 N f) (x y:TyT) (σ:Sbs) (r:Int × Sbs) (h:unifyF (f+1) x y σ=some r) (hσ:GoodS N σ) (hx:VarsIn N x) (hy:VarsIn N y) (hnx:NamesY x) (hny:NamesY y) (hnσ:NamesS σ) (hsx:SmY σ x) (hsy:SmY σ y)
  (xv yv lv:Value) (w:World) (RB:RowAt w b 0 [P0,P1,lv,L3,L4,L5]) (RBW:Wr w b 0 6) (hxv:Sl GTyItem.R 3 (b+1) w xv (flatY x)) (hyv:Sl GTyItem.R 3 (b+1) w yv (flatY y)) (hl:Sl SubR 2 (b+1) w lv σ) :
  Calls Tryz.prog 122 #[.pointer (some ⟨b,2,none⟩),xv,yv] w (BdPost b P0 P1 L3 L4 L5 r w):=by
  unfold UnyC at ih
  have hbw:b<w.heap.size:=World.block_lt_of_cell? _ _ (RB 0 _ rfl)
  have hpost:∀W lv,RowAt W b 0 [P0,P1,lv,L3,L4,L5]->Wr W b 0 6->(∃a n c,lv=Value.slice a n c)->(r.1=0->Sl SubR 2 (b+1) W lv r.2)->IFr b w W->BdPost b P0 P1 L3 L4 L5 r w (.returned (.int .i64 r.1)) W:=fun W lv h1 h2 h3 h4 h5=>⟨lv,rfl,h1,h2,h3,h4,h5⟩
  have hposto:∀W W' e,IFr b w W->BdPost b P0 P1 L3 L4 L5 r W e W'->∃c,e=.returned (.int .i64 c)/\BdPost b P0 P1 L3 L4 L5 r w (.returned (.int .i64 c)) W':=fun W W' e h1 ⟨lv',h2,h3,h4,h5,h6,h7⟩=>⟨_,h2,lv',rfl,h3,h4,h5,h6,h1.trans h7⟩
  generalize hQ:BdPost b P0 P1 L3 L4 L5 r w=Q at *
  have hXn:=names_sub hnσ x hnx
  have hYn:=names_sub hnσ y hny
  rw[unifyF_step f x y σ hXn hYn]at h
  have hXv:=hσ.vars hx
  have hYv:=hσ.vars hy
  have hXz:=hsx.sz hσ
  have hYz:=hsy.sz hσ
  have hXs:∀k∈kidsY (subY σ x),SmY σ k:=fun k hk=>hsx.kid hσ hk
  have hYs:∀k∈kidsY (subY σ y),SmY σ k:=fun k hk=>hsy.kid hσ hk
  have cX:∀W,Below w.heap.size w W->Calls Tryz.prog 72 #[xv,lv] W (fun e w'=>∃v,e=.returned v/\Sl GTyItem.R 3 (b+1) w' v (flatY (subY σ x))/\∀V,Below V.heap.size V W->Below V.heap.size V w'):=fun W hW=>by
   rw[<- putL_flat _ _ hnx]
   exact(put_c (flatY x) σ (by rw[putL_flat _ _ hnx,flatY_len];omega) xv lv W ((hxv.below GTyItem.good hW).mono GTyItem.good (Nat.zero_le _)) ((hl.below SubR.good hW).mono SubR.good (Nat.zero_le _))).mono (by rintro e w' ⟨v,rfl,h2,h3⟩;exact⟨v,rfl,(h2.sl flatTyItem).mono GTyItem.good (by have:=hW.size;omega),fun V hV=>hV.trans (h3.mono hV.size)⟩)
  have cY:∀W,Below w.heap.size w W->Calls Tryz.prog 72 #[yv,lv] W (fun e w'=>∃v,e=.returned v/\Sl GTyItem.R 3 (b+1) w' v (flatY (subY σ y))/\∀V,Below V.heap.size V W->Below V.heap.size V w'):=fun W hW=>by
   rw[<- putL_flat _ _ hny]
   exact(put_c (flatY y) σ (by rw[putL_flat _ _ hny,flatY_len];omega) yv lv W ((hyv.below GTyItem.good hW).mono GTyItem.good (Nat.zero_le _)) ((hl.below SubR.good hW).mono SubR.good (Nat.zero_le _))).mono (by rintro e w' ⟨v,rfl,h2,h3⟩;exact⟨v,rfl,(h2.sl flatTyItem).mono GTyItem.good (by have:=hW.size;omega),fun V hV=>hV.trans (h3.mono hV.size)⟩)
  have hLK:∀W,Below w.heap.size w W->Sl SubR 2 (b+1) W lv σ:=fun W hW=>hl.below SubR.good hW
  have hlen:σ.length<=1000000:=by have:=hσ.len hN;omega
  generalize subY σ x=X at *
  generalize subY σ y=Y at *
  obtain⟨xa,xc,rfl⟩:=hxv.form
  obtain⟨ya,yc,rfl⟩:=hyv.form
  obtain⟨la,lc,rfl⟩:=hl.form
  generalize (flatY x).length=xn at *
  generalize (flatY y).length=yn at *
  generalize σ.length=m at *
  clear hxv hyv hl hsx hsy hnx hny hx hy
  have cB:∀n u uv W,((0<=n/\n<N)/\getS σ n=none)->NamesY u->szY u<=40000->Below w.heap.size w W->Sl GTyItem.R 3 (b+1) W uv (flatY u)->Calls Tryz.prog 155 #[.pointer (some ⟨b,2,none⟩),.int .i64 n,uv] W (BdPost b P0 P1 L3 L4 L5 (bindY σ n u) W):=fun n u uv W h1 h2 h3 h5 h6=>
   bind_c σ n u ⟨by omega,by omega⟩ h2 hnσ hσ.sz h3 (by have:=hσ.len hN;omega) (getS_none.1 h1.2) _ uv W (RB.below h5) (RBW.below h5) (hLK W h5) h6
  have hvX:(hdY X).name.toList.isEmpty=true->(0<=(hdY X).var/\(hdY X).var<N)/\getS σ (hdY X).var=none:=fun h=>by
   cases X<;>simp only[hdY]at h ⊢
   ·exact hXv _ (by simp[occY])
   ·exact absurd h (by rw[show _=false from hXn];simp)
   ·exact absurd h (by rw[hXn.1];simp)
   ·exact absurd h (by rw[hXn.1];simp)
  have hvY:(hdY Y).name.toList.isEmpty=true->(0<=(hdY Y).var/\(hdY Y).var<N)/\getS σ (hdY Y).var=none:=fun h=>by
   cases Y<;>simp only[hdY]at h ⊢
   ·exact hYv _ (by simp[occY])
   ·exact absurd h (by rw[show _=false from hYn];simp)
   ·exact absurd h (by rw[hYn.1];simp)
   ·exact absurd h (by rw[hYn.1];simp)
  have haX:=hdY_arity X
  have haY:=hdY_arity Y
  unfold stepY at h
  obtain⟨pv,hpv⟩ : ∃q,q=(hdY X).var:=⟨_,rfl⟩
  obtain⟨pn,hpn⟩ : ∃q,q=(hdY X).name:=⟨_,rfl⟩
  obtain⟨pa,hpa⟩ : ∃q,q=(hdY X).arity:=⟨_,rfl⟩
  obtain⟨qv,hqv⟩ : ∃q,q=(hdY Y).var:=⟨_,rfl⟩
  obtain⟨qn,hqn⟩ : ∃q,q=(hdY Y).name:=⟨_,rfl⟩
  obtain⟨qa,hqa⟩ : ∃q,q=(hdY Y).arity:=⟨_,rfl⟩
  have hcX:∀W v,Sl GTyItem.R 3 (b+1) W v (flatY X)->∃b o c,v=.slice (some ⟨b,o,none⟩) (szY X) c/\szY X<=c/\c<=9223372036854775807/\RowAt W b o [.int .i64 pv,.string pn,.int .i64 pa]:=fun W v h=>by rw[hpv,hpn,hpa];exact head_cells h
  have hcY:∀W v,Sl GTyItem.R 3 (b+1) W v (flatY Y)->∃b o c,v=.slice (some ⟨b,o,none⟩) (szY Y) c/\szY Y<=c/\c<=9223372036854775807/\RowAt W b o [.int .i64 qv,.string qn,.int .i64 qa]:=fun W v h=>by rw[hqv,hqn,hqa];exact head_cells h
  have hXp:=szY_pos X
  have hYp:=szY_pos Y
  rw[<- hpv,<- hpn,<- hpa,<- hqv,<- hqn,<- hqa]at h
  rw[<- hpv,<- hpn]at hvX
  rw[<- hqv,<- hqn]at hvY
  rw[<- hpa]at haX
  rw[<- hqa]at haY
  clear hpv hpn hpa hqv hqn hqa
  obtain⟨ex,hex⟩ : ∃q,pn.toList.isEmpty=q:=⟨_,rfl⟩
  obtain⟨ey,hey⟩ : ∃q,qn.toList.isEmpty=q:=⟨_,rfl⟩
  rw[hex]at h hvX
  rw[hey]at h hvY
  have ex1:(pn.toList == [])=ex:=by rw[<- hex];cases pn.toList<;>rfl
  have ey1:(qn.toList == [])=ey:=by rw[<- hey];cases qn.toList<;>rfl
  obtain⟨bn,hbn⟩ : ∃q,(pn.toList == qn.toList)=q:=⟨_,rfl⟩
  have hbn2:bn=true ↔ pn=qn:=by rw[<- hbn,beq_iff_eq,toList_eq]
  replace ih:=kH ih;replace hpost:=kH hpost;replace hposto:=kH hposto;replace hXv:=kH hXv;replace hYv:=kH hYv;replace hXs:=kH hXs;replace hYs:=kH hYs;replace cX:=kH cX;replace cY:=kH cY;replace hLK:=kH hLK;replace cB:=kH cB;replace hvX:=kH hvX;replace hvY:=kH hvY;replace haX:=kH haX;replace haY:=kH haY;replace hcX:=kH hcX;replace hcY:=kH hcY;replace h:=kH h;replace hbn2:=kH hbn2;replace hσ:=kH hσ;replace hnσ:=kH hnσ;replace hXn:=kH hXn;replace hYn:=kH hYn;replace hQ:=kH hQ;replace hex:=kH hex
  obtain⟨zx,hzx⟩ : ∃q,q=szY X:=⟨_,rfl⟩
  obtain⟨zy,hzy⟩ : ∃q,q=szY Y:=⟨_,rfl⟩
  rw[<- hzx]at hcX hXp hXz
  rw[<- hzy]at hcY hYp hYz
  replace hzx:=kH hzx;replace hzy:=kH hzy
  obtain⟨rb_0,rb_1,rb_2,rb_3,rb_4,rb_5⟩:=RB.box6;have hsRB:=bLt rb_0
  go_enter Tryz.func122,Tryz.ntmps122
  go_upto_region 1 with fail
  go_cut [1,2] (fun xv yv wx=>∃ (bx ox cx by_ oy cy:Nat),xv=.slice (some ⟨bx,ox,none⟩) zx cx/\yv=.slice (some ⟨by_,oy,none⟩) zy cy/\zx<=cx/\cx<=9223372036854775807/\zy<=cy/\cy<=9223372036854775807/\RowAt wx bx ox [.int .i64 pv,.string pn,.int .i64 pa]/\RowAt wx by_ oy [.int .i64 qv,.string qn,.int .i64 qa]/\Hid (Sl GTyItem.R 3 (b+1) wx (.slice (some ⟨bx,ox,none⟩) zx cx) (flatY X))/\Hid (Sl GTyItem.R 3 (b+1) wx (.slice (some ⟨by_,oy,none⟩) zy cy) (flatY Y))/\Hid (Below w.heap.size w wx))
  case first=>
   go_region_held3 (fun w'=>w'.cell? ⟨b,2,none⟩=some (.slice la m lc))
    (first|exact rb_2|exact u_2|go_keep)
    (first|(go_at_call 72;first
      |((with_reducible refine(cX.out _ ((Below.refl _ w).drew)).mono ?_);rintro e wX ⟨vX,rfl,TX,hX⟩;have hX0:=hX w ((Below.refl _ _).drew);have u_2:=(RB.below hX0).box6.2.2.1;replace hX0:=kH hX0;replace TX:=kH TX;replace hX:=kH hX)
      |((with_reducible refine(cX.out _ hY0.out).mono ?_);rintro e wX ⟨vX,rfl,TX,hX⟩;have hX0:=hX w hY0.out;replace TY:=kH (TY.out.below GTyItem.good (hX wY (Below.refl _ _)));have u_2:=(RB.below hX0).box6.2.2.1;replace hX0:=kH hX0;replace TX:=kH TX;replace hX:=kH hX)
      |((with_reducible refine(cY.out _ ((Below.refl _ w).drew)).mono ?_);rintro e wY ⟨vY,rfl,TY,hY⟩;have hY0:=hY w ((Below.refl _ _).drew);have u_2:=(RB.below hY0).box6.2.2.1;replace hY0:=kH hY0;replace TY:=kH TY;replace hY:=kH hY)
      |((with_reducible refine(cY.out _ hX0.out).mono ?_);rintro e wY ⟨vY,rfl,TY,hY⟩;have hY0:=hY w hX0.out;replace TX:=kH (TX.out.below GTyItem.good (hY wX (Below.refl _ _)));have u_2:=(RB.below hY0).box6.2.2.1;replace hY0:=kH hY0;replace TY:=kH TY;replace hY:=kH hY)))
   all_goals (obtain⟨bx,ox,cx,ex2,hx1,hx2,HX⟩:=hcX.out _ _ TX.out;obtain⟨by_,oy,cy,ey2,hy1,hy2,HY⟩:=hcY.out _ _ TY.out;subst ex2;subst ey2)
   all_goals go_wp2_with fail
   all_goals go_meet
   all_goals first|exact⟨bx,ox,cx,by_,oy,cy,rfl,rfl,hx1,hx2,hy1,hy2,HX,HY,TX,TY,hY0⟩|exact⟨bx,ox,cx,by_,oy,cy,rfl,rfl,hx1,hx2,hy1,hy2,HX,HY,TX,TY,hX0⟩
  obtain⟨bx,ox,cx,by_,oy,cy,rfl,rfl,hx1,hx2,hy1,hy2,HX,HY,SX,SY,hcw⟩:=hcut
  have R4:=RB.below hcw.out
  have R4W:=RBW.below hcw.out
  have hw4:=hcw.out
  have hz4:=hw4.size
  obtain⟨w4,rfl⟩ : ∃W,W=wc:=⟨_,rfl⟩
  clear rb_0 rb_1 rb_2 rb_3 rb_4 rb_5 hsRB RB RBW hcw cX cY hcX hcY
  obtain⟨p_0,p_1,p_2⟩:=HX.cells3
  obtain⟨q_0,q_1,q_2⟩:=HY.cells3
  have hbx:=World.block_lt_of_cell? _ _ p_0;dsimp only at hbx
  have hby:=World.block_lt_of_cell? _ _ q_0;dsimp only at hby
  go_upto_region 2 with fail
  go_cut [7,8] (fun pp qq wx=>∃ (pb qb:Nat),pp=.pointer (some ⟨pb,0,none⟩)/\qq=.pointer (some ⟨qb,0,none⟩)/\RowAt wx pb 0 [.int .i64 pv,.string pn,.int .i64 pa]/\RowAt wx qb 0 [.int .i64 qv,.string qn,.int .i64 qa]/\Below w4.heap.size w4 wx)
  case first=>
   go_region_law fail
   all_goals go_wp2_with fail
   all_goals go_meet
   all_goals first
    |(obtain⟨t1,t2,t3⟩:=two_boxes w4 #[.int .i64 pv,.string pn,.int .i64 pa] #[.int .i64 qv,.string qn,.int .i64 qa] 107 107;exact⟨_,_,rfl,rfl,t1,t2,t3⟩)
    |(obtain⟨t1,t2,t3⟩:=two_boxes w4 #[.int .i64 qv,.string qn,.int .i64 qa] #[.int .i64 pv,.string pn,.int .i64 pa] 107 107;exact⟨_,_,rfl,rfl,t2,t1,t3⟩)
  obtain⟨pb,qb,rfl,rfl,P5,Q5,hb45⟩:=hcut
  have R5:=R4.below hb45
  have R5W:=R4W.below hb45
  have SX5:=kH (SX.out.below GTyItem.good hb45)
  have SY5:=kH (SY.out.below GTyItem.good hb45)
  have hw5:=hw4.trans (hb45.mono hz4)
  obtain⟨w5,rfl⟩ : ∃W,W=wc:=⟨_,rfl⟩
  have hz5:=hw5.size
  clear p_0 p_1 p_2 q_0 q_1 q_2 hbx hby HX HY SX SY hb45 hw4 hz4 R4 R4W
  have F5:=kH (IFr.of hw5 (Nat.le_of_lt hbw))
  obtain⟨p5_0,p5_1,p5_2⟩:=P5.box3;have hsP5:=bLt p5_0;obtain⟨q5_0,q5_1,q5_2⟩:=Q5.box3;have hsQ5:=bLt q5_0
  have hrX:bindY σ pv Y=r->ex=true->Calls Tryz.prog 155 #[.pointer (some ⟨b,2,none⟩),.int .i64 pv,.slice (some ⟨by_,oy,none⟩) zy cy] w5 (BdPost b P0 P1 L3 L4 L5 r w5):=fun hr he=>by
   have:=cB.out pv Y (.slice (some ⟨by_,oy,none⟩) zy cy) w5 (hvX.out he) hYn.out (by have:=hzy.out;omega) hw5 SY5.out
   rwa [hr]at this
  have hrY:bindY σ qv X=r->ey=true->Calls Tryz.prog 155 #[.pointer (some ⟨b,2,none⟩),.int .i64 qv,.slice (some ⟨bx,ox,none⟩) zx cx] w5 (BdPost b P0 P1 L3 L4 L5 r w5):=fun hr he=>by
   have:=cB.out qv X (.slice (some ⟨bx,ox,none⟩) zx cx) w5 (hvY.out he) hXn.out (by have:=hzx.out;omega) hw5 SX5.out
   rwa [hr]at this
  replace hrX:=kH hrX;replace hrY:=kH hrY
  cases ex
  ·cases ey
   ·by_cases hn:pn=qn
    ·have hbt:bn=true:=hbn2.out.2 hn
     have hbf:(pn.toList == qn.toList)=true:=by rw[hbn,hbt]
     by_cases ha:pa=qa
     ·have h':=h.out
      rw[if_neg (by simp),if_neg (by simp),if_neg (by simp),if_neg (by simp[hn,ha])]at h'
      subst ha
      subst hn
      clear h hbt hbn hbn2 hbf hrX hrY hvX hvY cB hey
      have hkl:(kidsY Y).length=(kidsY X).length:=by have h1:=haX.out;have h2:=haY.out;omega
      have hk2:=kidsY_len X
      obtain⟨ar,har⟩ : ∃q,q=(kidsY X).length:=⟨_,rfl⟩
      obtain rfl:pa=(ar:Int):=by rw[har];exact haX.out
      rw[<- har]at hkl hk2
      have cKX:∀W,Below w5.heap.size w5 W->Calls Tryz.prog 156 #[.slice (some ⟨bx,ox,none⟩) zx cx] W (KdPost (b+1) X W):=fun W hW=>kidsT_c X (by have:=hzx.out;omega) _ (b+1) W (by have:=hW.size;omega) (SX5.out.below GTyItem.good hW)
      have cKY:∀W,Below w5.heap.size w5 W->Calls Tryz.prog 156 #[.slice (some ⟨by_,oy,none⟩) zy cy] W (KdPost (b+1) Y W):=fun W hW=>kidsT_c Y (by have:=hzy.out;omega) _ (b+1) W (by have:=hW.size;omega) (SY5.out.below GTyItem.good hW)
      unfold KdPost at cKX cKY
      have hr0:=kH h'
      have hg0:=kH (show GoodS N σ/\ExtS σ σ/\NamesS σ from ⟨hσ.out,ExtS.refl hσ.out,hnσ.out⟩)
      clear h'
      replace cKX:=kH cKX;replace cKY:=kH cKY;replace har:=kH har;replace hkl:=kH hkl
      go_upto_region 14 with(go_at_call 156;first
       |((with_reducible refine(cKX.out _ (Below.refl _ _)).mono ?_);rintro e w6 ⟨v6,rfl,K6,hb6⟩;replace K6:=kH K6;replace hb6:=kH hb6)
       |((with_reducible refine(cKY.out _ hb6.out).mono ?_);rintro e w7 ⟨v7,rfl,K7,hb7⟩;replace K7:=kH K7;replace hb7:=kH hb7))
      have K7x:=kH (K6.out.below KidR.good hb7.out)
      have hb57:Below w5.heap.size w5 w7:=hb6.out.trans (hb7.out.mono hb6.out.size)
      obtain⟨xka,xkc,hxf⟩:=K7x.out.form
      obtain⟨yka,ykc,hyf⟩:=K7.out.form
      rw[<- har.out]at hxf
      rw[hkl.out]at hyf
      subst hxf
      subst hyf
      have R7:=R5.below hb57
      have R7W:=R5W.below hb57
      have hw7:=hw5.trans (hb57.mono hz5)
      have hl7:=kH (hLK.out w7 hw7)
      have F7:=kH (IFr.of hw7 (Nat.le_of_lt hbw))
      have FR:=kH (IFr.refl b w7)
      have hb7w:b<w7.heap.size:=by have:=hw7.size;omega
      clear ex1 ey1 p5_0 p5_1 p5_2 hsP5 q5_0 q5_1 q5_2 hsQ5 P5 Q5 SX5 SY5 R5 R5W K6 hb6 hb7 hb57 cKX cKY hw5 hz5 F5 hw7 hLK
      go_wp2_with fail
      go_loopw [105] (fun jv wr=>∃ (j:Nat) (τ:Sbs) (lj:Value),j<=ar/\jv=.int .i64 j/\RowAt wr b 0 [P0,P1,lj,L3,L4,L5]/\Wr wr b 0 6/\Hid (Sl SubR 2 (b+1) wr lj τ)/\Hid (unifyKs f ((kidsY X).drop j) ((kidsY Y).drop j) τ=some r)/\Hid (GoodS N τ/\ExtS σ τ/\NamesS τ)/\Hid (IFr b w7 wr)) (fun jv _=>ar-(intOf jv).toNat)
      case atStart=>exact⟨0,σ,_,by omega,rfl,R7,R7W,hl7,hr0,hg0,FR⟩
      case round=>
       clear hl7 hr0 hg0 FR R7 R7W
       obtain⟨j,τ,lj,hj,rfl,R,RW,hl,hr,hg,FF⟩:=hrel
       have hz6:=FF.out.size
       by_cases hlt:j<ar
       ·obtain⟨g1,o1,a,r1,hlo1,rfl,ha,⟨u1,rfl,hu1⟩,c1⟩:=((FF.out.sl KidR.good K7x.out).at_).get har hlt
        obtain⟨g2,o2,bb,r2,hlo2,rfl,hb,⟨u2,rfl,hu2⟩,c2⟩:=((FF.out.sl KidR.good K7.out).at_).get (kH hkl.out.symm) hlt
        have hr':=hr.out
        have dX:(kidsY X).drop j=a :: (kidsY X).drop (j+1):=by obtain⟨h1,rfl⟩:=List.getElem?_eq_some_iff.1 ha.out;exact List.drop_eq_getElem_cons h1
        have dY:(kidsY Y).drop j=bb :: (kidsY Y).drop (j+1):=by obtain⟨h1,rfl⟩:=List.getElem?_eq_some_iff.1 hb.out;exact List.drop_eq_getElem_cons h1
        rw[dX,dY,unifyKs]at hr'
        obtain⟨c,τ',hq⟩ : ∃c τ',unifyF f a bb τ=some (c,τ'):=by
         cases hq:unifyF f a bb τ with
         |none=>rw[hq]at hr';cases hr'
         |some q=>exact⟨q.1,q.2,rfl⟩
        rw[hq]at hr'
        dsimp only at hr'
        obtain⟨hg1,hg2,hg3⟩:=hg.out
        have hma:=List.mem_of_getElem? ha.out
        have hmb:=List.mem_of_getElem? hb.out
        have cU:=fun W (hW:Below wr.heap.size wr W)=>ih.out a bb τ (c,τ') hq hg1 (fun n hn=>(hXv.out n (kidsY_occ hma hn)).1) (fun n hn=>(hYv.out n (kidsY_occ hmb hn)).1) (kidsY_names hma hXn.out) (kidsY_names hmb hYn.out) hg3 ((hXs.out a hma).ext hg2) ((hYs.out bb hmb).ext hg2) u1 u2 lj W (R.below hW) (RW.below hW) (hu1.below GTyItem.good hW) (hu2.below GTyItem.good hW) (hl.out.below SubR.good hW)
        unfold BdPost at cU
        have hgood:=fun(h0:c=0)=>(show GoodS N τ'/\ExtS σ τ'/\NamesS τ' from ⟨(unifyF_good hN hg1 (fun n hn=>(hXv.out n (kidsY_occ hma hn)).1) (fun n hn=>(hYv.out n (kidsY_occ hmb hn)).1) hq h0).1,hg2.trans (unifyF_good hN hg1 (fun n hn=>(hXv.out n (kidsY_occ hma hn)).1) (fun n hn=>(hYv.out n (kidsY_occ hmb hn)).1) hq h0).2,unifyF_names _ _ _ _ _ _ hg3 (kidsY_names hma hXn.out) (kidsY_names hmb hYn.out) hq⟩)
        dsimp only at cU
        have e_1:wr.cell? ⟨g1,o1+j,none⟩=some u1:=by simpa using c1 0 _ rfl
        have e_2:wr.cell? ⟨g2,o2+j,none⟩=some u2:=by simpa using c2 0 _ rfl
        obtain⟨ua1,uc1,rfl⟩:=hu1.form
        obtain⟨ua2,uc2,rfl⟩:=hu2.form
        generalize (flatY a).length=un1 at *
        generalize (flatY bb).length=un2 at *
        obtain⟨la',lc',rfl⟩:=hl.out.form
        generalize τ.length=lm' at *
        have hbb1:=World.block_lt_of_cell? _ _ e_1;dsimp only at hbb1
        have hbb2:=World.block_lt_of_cell? _ _ e_2;dsimp only at hbb2
        clear hq hg1 hg2 hg3 hma hmb dX dY hr hu1 hu2 c1 c2
        replace hr':=kH hr';replace cU:=kH cU;replace hgood:=kH hgood
        go_upto_region 17 with fail
        go_cut [12] (fun cv wx=>cv=.int .i64 c/\∃ (aU:Option Addr) (nU cU' : Nat),RowAt wx b 0 [P0,P1,.slice aU nU cU',L3,L4,L5]/\Wr wx b 0 6/\Hid (c=0->Sl SubR 2 (b+1) wx (.slice aU nU cU') τ')/\Hid (IFr b wr wx))
        case first=>
         go_region_held3 (fun w'=>w'.cell? ⟨g1,o1+j,none⟩=some (.slice ua1 un1 uc1)/\w'.cell? ⟨g2,o2+j,none⟩=some (.slice ua2 un2 uc2))
          (first|exact⟨e_1,e_2⟩|exact⟨v_1,v_2⟩|go_keep)
          (first|(go_at_call 122;(with_reducible refine(cU.out _ ((Below.refl _ wr).drew)).mono ?_);rintro e wU ⟨lvU,rfl,RU,RUW,⟨aU,nU,cU',rfl⟩,hsU,hFU⟩;replace hsU:=kH hsU;have hFU0:=kH ((IFr.of ((Below.refl _ wr).drew) (Nat.le_of_lt (show b<wr.heap.size by omega))).trans hFU);have v_1:=hFU0.out.cell e_1 (by omega);have v_2:=hFU0.out.cell e_2 (by omega)))
         all_goals go_wp2_with fail
         all_goals go_meet
         all_goals exact⟨rfl,_,_,_,RU,RUW,hsU,hFU0⟩
        obtain⟨rfl,aU,nU,cU',RU,RUW,hsU,hFU⟩:=hcut
        by_cases h0:c=0
        ·subst h0
         have hr1:=hr'.out
         rw[if_pos rfl]at hr1
         have hg1:=hgood.out rfl
         replace hr1:=kH hr1;replace hg1:=kH hg1
         clear hr' hgood cU
         go_wp2_with fail
         go_roundw
         case rel=>exact⟨j+1,τ',_,by omega,by go_num,RU,RUW,kH (hsU.out (by first|rfl|trivial)),hr1,hg1,kH (FF.out.trans hFU.out)⟩
         case measure=>simp[intOf];omega
        ·have d0:(c != 0)=true:=by simpa using h0
         have hr1:=hr'.out
         rw[if_neg h0]at hr1
         obtain rfl:=Option.some.inj hr1
         clear hr' hgood hr1 cU
         replace h0:=kH h0
         go_wp2_with fail
         exact hpost.out _ _ RU RUW ⟨_,_,_,rfl⟩ (fun h=>absurd h h0.out) ((F7.out.trans FF.out).trans hFU.out)
       ·obtain rfl:j=ar:=by omega
        have hr':=hr.out
        have hd1:(kidsY X).drop j=[]:=List.drop_of_length_le (by have:=har.out;omega)
        rw[hd1]at hr'
        replace hr' : some ((0:Int),τ)=some r:=by rw[<- hr'];cases (kidsY Y).drop j<;>rfl
        obtain rfl:=Option.some.inj hr'
        obtain⟨la',lc',hv⟩:=hl.out.form
        clear hr hr' hd1
        go_wp2_with fail
        exact hpost.out _ _ R RW ⟨_,_,_,hv⟩ (fun _=>hl.out) (F7.out.trans FF.out)
     ·have h':=h.out
      rw[if_neg (by simp),if_neg (by simp),if_neg (by simp),if_pos (.inr ha)]at h'
      obtain rfl:=Option.some.inj h'
      have da:(pa == qa)=false:=beq_eq_false_iff_ne.2 ha
      clear h h' hn ha hbt hbn hbn2
      go_wp2_with fail
      exact hpost.out _ _ R5 R5W ⟨_,_,_,rfl⟩ (fun h=>by simp at h) F5.out
    ·have hbf:(pn.toList == qn.toList)=false:=by rw[hbn,Bool.eq_false_iff];exact fun h=>hn (hbn2.out.1 h)
     have h':=h.out
     rw[if_neg (by simp),if_neg (by simp),if_neg (by simp),if_pos (.inl hn)]at h'
     obtain rfl:=Option.some.inj h'
     clear h h' hn hbn hbn2
     go_wp2_with fail
     exact hpost.out _ _ R5 R5W ⟨_,_,_,rfl⟩ (fun h=>by simp at h) F5.out
   ·have h':=h.out
    rw[if_neg (by simp),if_neg (by simp),if_pos rfl]at h'
    have hr:=hrY.out (Option.some.inj h') rfl
    replace hr:=kH hr
    clear h h'
    go_wp2_with (go_at_call 155;(with_reducible refine(hr.out).mono ?_);rintro e w6 h6;obtain⟨c6,rfl,h7⟩:=hposto.out _ _ _ F5.out h6)
    exact h7
  ·have hgo:ey=true/\pv=qv\/ey=true/\pv<qv\/(ey=false\/qv<pv)/\¬ (ey=true/\pv=qv):=by cases ey<;>simp<;>omega
   rcases hgo with⟨rfl,he⟩|⟨rfl,hl⟩|⟨hl,hne⟩
   ·have h':=h.out
    rw[if_pos ⟨rfl,rfl,he⟩]at h'
    obtain rfl:=Option.some.inj h'
    subst he
    clear h h'
    go_wp2_with fail
    exact hpost.out _ _ R5 R5W ⟨_,_,_,rfl⟩ (fun _=>hLK.out _ hw5) F5.out
   ·have h':=h.out
    rw[if_neg (by simp;omega),if_neg (by simp;omega),if_pos rfl]at h'
    have hr:=hrY.out (Option.some.inj h') rfl
    have d1:(pv == qv)=false:=beq_eq_false_iff_ne.2 (by omega)
    have d2:decide (pv<qv)=true:=decide_eq_true (by omega)
    replace hr:=kH hr
    clear h h' hl
    go_wp2_with (go_at_call 155;(with_reducible refine(hr.out).mono ?_);rintro e w6 h6;obtain⟨c6,rfl,h7⟩:=hposto.out _ _ _ F5.out h6)
    exact h7
   ·have h':=h.out
    rw[if_neg (fun h=>hne h.2),if_pos ⟨rfl,hl⟩]at h'
    have hr:=hrX.out (Option.some.inj h') rfl
    replace hr:=kH hr
    clear h h'
    cases ey
    ·clear hl hne
     go_wp2_with (go_at_call 155;(with_reducible refine(hr.out).mono ?_);rintro e w6 h6;obtain⟨c6,rfl,h7⟩:=hposto.out _ _ _ F5.out h6)
     exact h7
    ·have hl:qv<pv:=by rcases hl with h|h;cases h;exact h
     have d1:(pv == qv)=false:=beq_eq_false_iff_ne.2 (by omega)
     have d2:decide (pv<qv)=false:=decide_eq_false (by omega)
     clear hl hne
     go_wp2_with (go_at_call 155;(with_reducible refine(hr.out).mono ?_);rintro e w6 h6;obtain⟨c6,rfl,h7⟩:=hposto.out _ _ _ F5.out h6)
     exact h7
theorem unify_all {b:Nat} {P0 P1 L3 L4 L5:Value} (N:Int) (hN:0<=N) (hN2:N<=1000000) (f:Nat):UnyC b P0 P1 L3 L4 L5 N f:=by
 induction f with
 |zero=>intro x y σ r h;simp[unifyF]at h
 |succ f ih=>exact fun x y σ r h h1 h2 h3 h4 h5 h6 h7 h8 xv yv lv w h9 h10 h11 h12 h13=>unify_step N hN hN2 f ih x y σ r h h1 h2 h3 h4 h5 h6 h7 h8 xv yv lv w h9 h10 h11 h12 h13
end Go.Proofs.YtkikkfjmggobpaaGreat
namespace Go.Proofs.YtkikkfjmggobpaaGreat
open Go.RowKit
set_option linter.unusedVariables false
set_option linter.unusedSimpArgs false
structure ISeq (s m:IS):Prop where
 cd:s.cd=m.cd
 at_:s.at_=m.at_
 eq:m.cd=0->s=m
theorem ISeq.refl (s:IS):ISeq s s:=⟨rfl,rfl,fun _=>rfl⟩
theorem ISeq.trans {s m k:IS} (h:ISeq s m) (h2:ISeq m k):ISeq s k:=⟨h.cd.trans h2.cd,h.at_.trans h2.at_,fun h0=>(h.eq (by rw[h2.cd];exact h0)).trans (h2.eq h0)⟩
theorem ISeq.new {s m:IS} (h:ISeq s m):ISeq s.new m.new:=⟨h.cd,h.at_,fun h0=>by rw[h.eq h0]⟩
theorem ISeq.fault {s m:IS} (h:ISeq s m) (c a:Int) (hc:0<c):ISeq (s.fault c a) (m.fault c a):=by
 unfold IS.fault
 rw[h.cd]
 split
 ·exact⟨rfl,rfl,fun h0=>by dsimp only at h0;omega⟩
 ·exact h
theorem IS.big_skip {s:IS} (h:s.cd≠0) (t:TyT) (a:Int):s.big t a=s:=by unfold IS.big;rw[if_neg (fun h'=>h h'.1)]
theorem IS.demand_skip {s:IS} (h:s.cd≠0) (x y:TyT) (a:Int):s.demand x y a=s:=by
 unfold IS.demand
 rw[IS.big_skip h,IS.big_skip h,if_neg h]
theorem ISeq.demand {s m:IS} (h:ISeq s m) (x y:TyT) (a:Int):ISeq (s.demand x y a) (m.demand x y a):=by
 by_cases h0:m.cd=0
 ·rw[h.eq h0];exact ISeq.refl _
 ·rw[IS.demand_skip h0,IS.demand_skip (by rw[h.cd];exact h0)];exact h
def IS.adv (s:IS) (k:Nat):IS:=⟨s.sub,s.nx+k,s.cd,s.at_⟩
/-- A constructor as it stands: its type, its argument's, the state. -/
noncomputable def lookY (T:List GType) (s:IS) (name:ByteArray) (one:Bool) (a:Int):TyT × TyT × IS:=
 match conI T name s.nx with
 |none=>(.c0 nmInt,.c0 nmInt,s.fault 22 a)
 |some c=>if c.has=one then (c.own,c.arg,s.adv c.many) else (.c0 nmInt,.c0 nmInt,s.fault 23 a)
theorem conI_parts {T:List GType} (hT:TysOk T) {name:ByteArray} {n:Nat} {c:ConI} (h:conI T name n=some c):c.many<=2/\(VarsIn ((n+c.many:Nat):Int) c.own/\NamesY c.own/\szY c.own<=3)/\(c.has=true->VarsIn ((n+c.many:Nat):Int) c.arg/\NamesY c.arg/\szY c.arg<=40000):=by
 unfold conI at h
 split at h
 ·obtain rfl:=Option.some.inj h
  exact⟨by simp,⟨fun k hk=>by simp[occY]at hk,by show nmBool.toList.isEmpty=false;rw[ByteArray.toList_eq];rfl,by simp[szY]⟩,fun h=>by cases h⟩
 ·split at h
  ·obtain rfl:=Option.some.inj h
   have e1:nmList.toList.isEmpty=false:=by rw[ByteArray.toList_eq];rfl
   have e2:nmStar.toList.isEmpty=false:=by rw[ByteArray.toList_eq];rfl
   refine⟨by simp,⟨fun k hk=>?_,⟨e1,trivial⟩,by simp[szY]⟩,fun _=>⟨fun k hk=>?_,⟨e2,trivial,e1,trivial⟩,by simp[szY]⟩⟩
   ·simp only[occY,beq_iff_eq]at hk;subst hk;dsimp only;omega
   ·simp only[occY,Bool.or_eq_true,beq_iff_eq]at hk;dsimp only;omega
  ·split at h
   ·rename_i t c' hf
    obtain rfl:=Option.some.inj h
    obtain⟨m1,m2⟩:=findC_mem hf
    obtain⟨h1,h2,h3,h4⟩:=typeOk_parts (hT t m1).1
    have hk:t.params.toNat<=2:=by omega
    refine⟨hk,ownY_in (s:=⟨[],n,0,0⟩) hk (name_full h1) (Nat.le_refl _),fun hh=>?_⟩
    dsimp only at hh ⊢
    obtain⟨h5,h6,h7⟩:=conHas_yes (h4 c' m2).1 hh
    have hv:=arg_vars (hT t m1).1 m2 hh
    refine⟨fun k hk2=>?_,names_sub (newVs_names _ _) _ h6,?_⟩
    ·rcases occ_sub _ hk2 with⟨h8,h9⟩|⟨i,u,h8,h9,h10⟩
     ·have:=hv k h8
      rw[newVs_get this.1 (by omega)]at h9
      cases h9
     ·have:=hv i h8
      rw[newVs_get this.1 (by omega)]at h9
      obtain rfl:=Option.some.inj h9
      simp only[occY,beq_iff_eq]at h10
      omega
    ·have:=sz_sub (σ:=newVs n t.params.toNat) (fun p hp=>by rw[(newVs_mem hp).2.2];simp[szY]) (treeY c'.arg.items)
     omega
   ·cases h
theorem IS.Good.adv {s:IS} (h:s.Good) (k:Nat):(s.adv k).Good:=⟨fun h0=>⟨(h.sub h0).1.up (by show(s.nx:Int)<=((s.nx+k:Nat):Int);omega),(h.sub h0).2⟩,h.cd,h.at_⟩
noncomputable def dataY (T:List GType):Nat->PxT->IS->TyT × IS
 |0,_,s=>(.c0 nmInt,s)
 |f+1,.mk kd n str ks,s=>
  if s.cd≠0 then (.c0 nmInt,s)
  else if kd=3 then (.c0 nmInt,s)
  else if kd=2 then (.c0 nmString,s)
  else if kd=6 then (.c0 nmUnit,s)
  else if kd=5 then (match ks with
   |[a,b]=>(.c2 nmStar (dataY T f a s).1 (dataY T f b (dataY T f a s).2).1,(dataY T f b (dataY T f a s).2).2)
   |_=>(.c0 nmInt,s))
  else (match ks with
   |[k]=>if (lookY T s str true 0).2.2.cd=0 then ((lookY T s str true 0).1,(dataY T f k (lookY T s str true 0).2.2).2.demand (dataY T f k (lookY T s str true 0).2.2).1 (lookY T s str true 0).2.1 0) else ((lookY T s str true 0).1,(lookY T s str true 0).2.2)
   |_=>((lookY T s str false 0).1,(lookY T s str false 0).2.2))
end Go.Proofs.YtkikkfjmggobpaaGreat

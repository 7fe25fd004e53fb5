/- Parts of the proof, merged: Node8, ProgOk3. -/
import Derived.Test.YtkikkfjmggobpaaGreatDt27
namespace Go.Proofs.YtkikkfjmggobpaaGreat
open Go.RowKit
set_option maxRecDepth 100000
set_option maxHeartbeats 16000000
set_option linter.unusedVariables false
set_option linter.unusedSimpArgs false
attribute [local go_sem] Ext.cell
theorem l04Node_13 (x:GNode) (hx:x.wf) (N:List GNode) (hN:N.length<=1152921504606846976) (tv:Value) (na:Option Addr) (nc:Nat) (u0 u1:Value) (lo1 lo2:Nat) (w:World)
  (h0:Sl GNode.R 6 lo1 w (.slice na N.length nc) N) (hk:Sl IntR 1 lo2 w u0 x.kids) (hp:Sl GPat.R 1 lo2 w u1 x.pats) (hps:∀q∈x.pats,q.nodes.length<=1152921504606846976) (hg:x.kind=13) :
  Calls Tryz.prog 91 #[.agg #[tv,.slice na N.length nc],.agg #[.int .i64 x.kind,.int .i64 x.at_,.int .i64 x.n,.string x.s,u0,u1]] w fun e w'=>e=.returned (.bool (nodSpec N x))/\Below w.heap.size w w':=by
 obtain⟨kd,at_,nn,s,ks,ps⟩:=x
 obtain⟨pa,pc,rfl,pl,pmx,p0⟩:=hp
 obtain⟨ka,kc,rfl,kl,km,k0⟩:=hk
 obtain⟨hxk,hxa,hxn,hss⟩:=hx
 dsimp only at *
 replace hg:=kH hg
 have hres:=nodSpec_eq N ⟨kd,at_,nn,s,ks,ps⟩
 have hB0:badA ⟨kd,at_,nn,s,ks,ps⟩=(((((decide (kd<1)||decide (19<kd))||decide (at_<0))||(kd != 1&&nn != 0))||decide (nn<0))||decide (4611686018427387903<nn)):=rfl
 generalize nodSpec N ⟨kd,at_,nn,s,ks,ps⟩=res at *
 generalize badA ⟨kd,at_,nn,s,ks,ps⟩=bad at *
 have hfk:0<ks.length->(∀k∈ks,0<=k/\k<(N.length:Int))->∃ (j:Nat) (b o b2 o2:Nat) (y:Int),ka=some ⟨b,o,none⟩/\na=some ⟨b2,o2,none⟩/\w.cell? ⟨b,o,none⟩=some (.int .i64 (j:Int))/\j<N.length/\w.cell? ⟨b2,o2+j*6,none⟩=some (.int .i64 y)/\firstK N ks=y:=fun h hin=>by
  obtain⟨b1,o1,z,r,_,rfl,P1,⟨rfl,_⟩,r1⟩:=k0.get (kH rfl) h
  obtain⟨hz0,hz1⟩:=hin z (List.mem_of_getElem? P1.out)
  obtain⟨j,rfl⟩ : ∃j:Nat,z=j:=⟨z.toNat,by omega⟩
  obtain⟨na',nc',he,_,_,n0⟩:=h0
  obtain⟨rfl,rfl⟩ : na' = na/\nc' = nc:=by injection he with a b c;exact⟨a.symm,c.symm⟩
  obtain⟨b2,o2,y,r',_,rfl,P2,⟨v0,v1,rfl,_⟩,r2⟩:=n0.get (kH rfl) (show j<N.length by omega)
  refine⟨j,b1,o1,b2,o2,y.kind,rfl,rfl,by simpa using r1 0 _ rfl,by omega,by simpa using r2 0 _ rfl,?_⟩
  have hks:ks=(j:Int) :: ks.drop 1:=by
   have:=P1.out
   cases ks with
   |nil=>simp at h
   |cons a l=>simp at this;subst this;rfl
  rw[hks]
  show nkind N j=_
  unfold nkind
  rw[if_pos (by omega),Int.toNat_natCast,P2.out];rfl
 clear h0
 have hpn:((ps.length:Int) == 0)=true->patsOk ps=true:=patsOk_nil
 obtain⟨m,hm⟩ : ∃m,m=ks.length:=⟨_,rfl⟩
 obtain⟨n,hn⟩ : ∃n,n=N.length:=⟨_,rfl⟩
 obtain⟨pm,hpm⟩ : ∃pm,pm=ps.length:=⟨_,rfl⟩
 have hBody:nodRest N ⟨kd,at_,nn,s,ks,ps⟩ =
  if kd=3\/kd=5\/kd=7\/kd=15 then nameOk s&&((ps.length:Int) == 0&&(ks.length:Int) == arP kd)
  else if kd=8 then nameOk s&&(((ks.length:Int) == 2&&firstK N ks == 5)&&(ps.length:Int) == 0)
  else if kd=10 then primOk s&&((ps.length:Int) == 0&&(ks.length:Int) == arP kd)
  else if kd=2 then ((ps.length:Int) == 0&&(ks.length:Int) == arP kd)
  else if kd=4 then ((ps.length:Int) == 0&&conShape s ks.length ((ks.length:Int) == 1&&firstK N ks == 11))
  else if kd=13 then s.toList.isEmpty&&(patsOk ps&&(decide (2<=(ks.length:Int))&&(ps.length:Int) == (ks.length:Int)-1))
  else s.toList.isEmpty&&((ps.length:Int) == 0&&(ks.length:Int) == arP kd):=rfl
 generalize nodRest N ⟨kd,at_,nn,s,ks,ps⟩=body at *
 rw[<- hm,<- hpm]at hBody
 rw[<- hm,<- hn]at hfk
 rw[<- hn]at hres
 rw[<- hm]at kl
 rw[<- hpm]at pl
 rw[<- hm,<- hn,<- hpm]
 rw[<- hn]at hN
 have cA:=fun W=>l04Kids_c kd W
 have cN:=fun W=>spec_NameOk_c s hss W
 have cP:=fun W=>l04Prim_c s W
 have cS:=fun p W=>l04ConOk_c s m p hss W
 generalize firstK N ks=fk at *
 obtain⟨ar,har⟩ : ∃ar,arP kd=ar:=⟨_,rfl⟩
 rw[har]at hBody cA
 clear hn hpn
 replace hm:=kH hm;replace hpm:=kH hpm;replace hps:=kH hps
 replace hB0:=kH hB0;replace hBody:=kH hBody;replace hres:=kH hres;replace hfk:=kH hfk;replace har:=kH har;replace k0:=kH k0;replace p0:=kH p0
 go_enter Tryz.func91,Tryz.ntmps91
 go_upto_region 1 with fail
 have D:RowAt (w.alloc (.cells #[tv,.slice na n nc] 39)) (w.heap.size) 0 [tv,.slice na n nc]:=RowAt.box w #[tv,.slice na n nc] 39
 have D:=D.below (show Below (w.alloc (.cells #[tv,.slice na n nc] 39)).heap.size (w.alloc (.cells #[tv,.slice na n nc] 39)) ((w.alloc (.cells #[tv,.slice na n nc] 39)).alloc (.cells #[.int .i64 kd,.int .i64 at_,.int .i64 nn,.string s,.slice ka m kc,.slice pa pm pc] 123)) by go_grown)
 have E:RowAt ((w.alloc (.cells #[tv,.slice na n nc] 39)).alloc (.cells #[.int .i64 kd,.int .i64 at_,.int .i64 nn,.string s,.slice ka m kc,.slice pa pm pc] 123)) (w.heap.size+1) 0 [.int .i64 kd,.int .i64 at_,.int .i64 nn,.string s,.slice ka m kc,.slice pa pm pc]:=by have h:=RowAt.box (w.alloc (.cells #[tv,.slice na n nc] 39)) #[.int .i64 kd,.int .i64 at_,.int .i64 nn,.string s,.slice ka m kc,.slice pa pm pc] 123;simp only[World.size_alloc]at h;exact h
 have hw:Below w.heap.size w ((w.alloc (.cells #[tv,.slice na n nc] 39)).alloc (.cells #[.int .i64 kd,.int .i64 at_,.int .i64 nn,.string s,.slice ka m kc,.slice pa pm pc] 123)):=by go_grown
 generalize ((w.alloc (.cells #[tv,.slice na n nc] 39)).alloc (.cells #[.int .i64 kd,.int .i64 at_,.int .i64 nn,.string s,.slice ka m kc,.slice pa pm pc] 123))=w0 at *
 have hw1:Below w.heap.size w w0:=hw
 obtain⟨d_0,d_1⟩:=D.box2;have hsD:=bLt d_0;obtain⟨e_0,e_1,e_2,e_3,e_4,e_5⟩:=E.box6;have hsE:=bLt e_0
 go_cut [42] (fun sx wx=>sx=.bool bad/\wx=w0)
 case first=>
  cases a1:decide (kd<1)
  ·cases a2:decide (19<kd)
   ·cases a3:decide (at_<0)
    ·cases a4:(kd != 1)
     ·cases a6:decide (nn<0)
      ·cases a7:decide (4611686018427387903<nn)
       ·(go_wp2_with fail;go_meet;refine⟨?_,rfl⟩;rw[hB0.out];simp[*];done)
       ·(go_wp2_with fail;go_meet;refine⟨?_,rfl⟩;rw[hB0.out];simp[*];done)
      ·(go_wp2_with fail;go_meet;refine⟨?_,rfl⟩;rw[hB0.out];simp[*];done)
     ·cases a5:(nn != 0)
      ·cases a6:decide (nn<0)
       ·cases a7:decide (4611686018427387903<nn)
        ·(go_wp2_with fail;go_meet;refine⟨?_,rfl⟩;rw[hB0.out];simp[*];done)
        ·(go_wp2_with fail;go_meet;refine⟨?_,rfl⟩;rw[hB0.out];simp[*];done)
       ·(go_wp2_with fail;go_meet;refine⟨?_,rfl⟩;rw[hB0.out];simp[*];done)
      ·(go_wp2_with fail;go_meet;refine⟨?_,rfl⟩;rw[hB0.out];simp[*];done)
    ·(go_wp2_with fail;go_meet;refine⟨?_,rfl⟩;rw[hB0.out];simp[*];done)
   ·(go_wp2_with fail;go_meet;refine⟨?_,rfl⟩;rw[hB0.out];simp[*];done)
  ·(go_wp2_with fail;go_meet;refine⟨?_,rfl⟩;rw[hB0.out];simp[*];done)
 obtain⟨rfl,rfl⟩:=hcut
 cases bad
 rotate_left
 ·have hr:res=false:=hres.out
  subst hr
  go_wp2_with fail
  go_returns
  exact⟨rfl,hw⟩
 have hkr:1<=kd/\kd<=19:=by have h:=hB0.out;simp at h;omega
 replace hres:Hid (res=(kidsIn n ks&&body)):=hres
 replace hkr:=kH hkr
 clear hB0 hw1
 go_wp2_with fail
 go_loopw [46] (fun ii wr=>∃j:Nat,j<=m/\ii=.int .i64 j/\Hid (∀k∈ks.take j,(decide (0<=k)&&decide (k<(n:Int)))=true)/\Below w.heap.size w wr/\RowAt wr w.heap.size 0 [tv,.slice na n nc]/\RowAt wr (w.heap.size+1) 0 [.int .i64 kd,.int .i64 at_,.int .i64 nn,.string s,.slice ka m kc,.slice pa pm pc]) (fun ii _=>m-(intOf ii).toNat)
 case atStart=>exact⟨0,by omega,rfl,fun y hy=>by simp at hy,hw,D,E⟩
 case round=>
  clear hw D E d_0 d_1 e_0 e_1 e_2 e_3 e_4 e_5 hsD hsE
  obtain⟨j,hj,rfl,hF,hw,D,E⟩:=hrel
  have hsz:=hw.size
  obtain⟨d_0,d_1⟩:=D.box2;have hsD:=bLt d_0;obtain⟨e_0,e_1,e_2,e_3,e_4,e_5⟩:=E.box6;have hsE:=bLt e_0
  by_cases hjm:j<m
  ·obtain⟨b1,o1,k,r,_,rfl,P1,⟨rfl,hk64⟩,r1⟩:=(k0.out.below IntR.good hw).get hm.out hjm
   have f_0:wr.cell? ⟨b1,o1+j,none⟩=some (.int .i64 k):=by simpa using r1 0 _ rfl
   have hbb1:=World.block_lt_of_cell? _ _ f_0;dsimp only at hbb1
   have P1':=P1.out
   have hgood:=fun h=>all_stepL (f:=fun k=>decide (0<=k)&&decide (k<(n:Int))) hF.out P1' h
   have hbadk:(decide (0<=k)&&decide (k<(n:Int)))=false->res=false:=fun h=>by
    have h1:kidsIn n ks=false:=all_bad (f:=fun k=>decide (0<=k)&&decide (k<(n:Int))) P1' h
    rw[hres.out,h1];rfl
   clear r1 P1 P1' hF
   replace hgood:=kH hgood;replace hbadk:=kH hbadk
   by_cases hk0:k<0
   ·have d1:decide (k<0)=true:=decide_eq_true hk0
    have hr:=hbadk.out (by rw[decide_eq_false (by omega)];rfl)
    subst hr
    clear hbadk hgood hk0 hres
    go_wp2_with fail
    go_returns
    exact⟨rfl,hw⟩
   ·have d1:decide (k<0)=false:=decide_eq_false hk0
    by_cases hkn:(n:Int)<=k
    ·have d2:decide ((n:Int)<=k)=true:=decide_eq_true hkn
     have hr:=hbadk.out (by rw[decide_eq_false (by omega : ¬ k<(n:Int))];simp)
     subst hr
     clear hbadk hgood hk0 hkn hres
     go_wp2_with fail
     go_returns
     exact⟨rfl,hw⟩
    ·have d2:decide ((n:Int)<=k)=false:=decide_eq_false hkn
     have hF:=kH (hgood.out (by rw[decide_eq_true (by omega),decide_eq_true (by omega)];rfl))
     clear hbadk hgood hk0 hkn
     go_wp2_with fail
     go_roundw
     case rel=>exact⟨j+1,by omega,by go_num,hF,hw,D,E⟩
     case measure=>simp[intOf];omega
  ·obtain rfl:j=m:=by omega
   have hki:kidsIn n ks=true:=all_full (f:=fun k=>decide (0<=k)&&decide (k<(n:Int))) hF.out hm.out
   have hinA:∀k∈ks,0<=k/\k<(n:Int):=fun k hk=>by
    have:=List.all_eq_true.1 hki k hk
    simpa using this
   have hrb:res=body:=by rw[hres.out,hki];rfl
   replace hfk:Hid (0<j->∃ (j:Nat) (b o b2 o2:Nat) (y:Int),ka=some ⟨b,o,none⟩/\na=some ⟨b2,o2,none⟩/\w.cell? ⟨b,o,none⟩=some (.int .i64 (j:Int))/\j<n/\w.cell? ⟨b2,o2+j*6,none⟩=some (.int .i64 y)/\fk=y):=kH fun h=>hfk.out h hinA
   clear hres hki hinA hF k0
   replace hrb:=kH hrb
   have hm1:((j:Int) == 1)=decide (j=1):=by rw[Bool.eq_iff_iff];simp;omega
   replace hm1:=kH hm1
   generalize hpz:((pm:Int) == 0)=pz at *
   clear hm
   have hg:=hg.out
   subst hg
   replace hBody:body=(s.toList.isEmpty&&(patsOk ps&&(decide (2<=(j:Int))&&(pm:Int) == (j:Int)-1))):=hBody.out
   cases hse:s.toList.isEmpty
   ·rw[hse]at hBody
    replace hBody:Hid (body=false):=kH hBody
    go_wp2_with fail
    go_returns
    exact⟨by rw[hrb.out,hBody.out];rfl,hw⟩
   rw[hse]at hBody
   replace hBody:Hid (body=(patsOk ps&&(decide (2<=(j:Int))&&(pm:Int) == (j:Int)-1))):=kH hBody
   clear hfk
   have hbi:∀W,Below w.heap.size w W->SlAt GPat.R 1 lo2 W pa ps:=fun W hW=>p0.out.below GPat.good hW
   replace hbi:=kH hbi
   go_wp2_with fail
   go_loopw [160] (fun ii wq=>∃k:Nat,k<=pm/\ii=.int .i64 k/\Hid (∀q∈ps.take k,patOk (patD q)=true)/\Below w.heap.size w wq/\RowAt wq w.heap.size 0 [tv,.slice na n nc]/\RowAt wq (w.heap.size+1) 0 [.int .i64 13,.int .i64 at_,.int .i64 nn,.string s,.slice ka j kc,.slice pa pm pc]) (fun ii _=>pm-(intOf ii).toNat)
   case atStart=>exact⟨0,by omega,rfl,fun y hy=>by simp at hy,hw,D,E⟩
   case round=>
    clear hw D E d_0 d_1 e_0 e_1 e_2 e_3 e_4 e_5 hsD hsE hsz
    obtain⟨k,hk,rfl,hF,hw,D,E⟩:=hrel
    have hsz:=hw.size
    obtain⟨d_0,d_1⟩:=D.box2;have hsD:=bLt d_0;obtain⟨e_0,e_1,e_2,e_3,e_4,e_5⟩:=E.box6;have hsE:=bLt e_0
    by_cases hkm:k<pm
    ·obtain⟨b1,o1,q,r,_,rfl,P1,hq,r1⟩:=(hbi.out _ hw).get hpm.out hkm
     have P1':=P1.out
     have hqs:=hps.out q (List.mem_of_getElem? P1')
     have hgood:=fun h=>all_stepL (f:=fun q=>patOk (patD q)) hF.out P1' h
     have hbadp:patOk (patD q)=false->res=false:=fun h=>by
      have h1:patsOk ps=false:=all_bad (f:=fun q=>patOk (patD q)) P1' h
      rw[hrb.out,hBody.out,h1];rfl
     have Hq:=hq
     obtain⟨v,rfl,_,v0⟩:=hq
     have f_0:wr.cell? ⟨b1,o1+k,none⟩=some v:=by simpa using r1 0 _ rfl
     have hbb1:=World.block_lt_of_cell? _ _ f_0;dsimp only at hbb1
     obtain⟨va,vc,rfl⟩:=v0.form
     generalize hql:q.nodes.length=ql at *
     go_upto_region 20 with fail
     have hbq:Below wr.heap.size wr (wr.alloc (.cells #[.slice va ql vc] 177)):=by go_grown
     have G:RowAt (wr.alloc (.cells #[.slice va ql vc] 177)) wr.heap.size 0 [.slice va ql vc]:=RowAt.box _ _ _
     have Hq':=GPat.good.below Hq hbq
     have hw':=hw.trans (hbq.mono hsz)
     have D':=D.below hbq
     have E':=E.below hbq
     generalize wr.alloc (.cells #[.slice va ql vc] 177)=w2 at *
     clear hw D E d_0 d_1 e_0 e_1 e_2 e_3 e_4 e_5 hsD hsE f_0 v0 Hq hbq hF r1 P1 P1'
     have hw:=hw';have D:=D';have E:=E'
     clear hw' D' E'
     have cQ:=specPatOk_c (patD q) (by unfold patD;simp only[List.length_map];rw[hql];exact hqs) [.slice va ql vc] lo2 w2 (GPat.toData Hq')
     generalize hpq:patOk (patD q)=pq at *
     clear Hq' hpq
     replace cQ:=kH cQ;replace hgood:=kH hgood;replace hbadp:=kH hbadp;replace hql:=kH hql
     obtain⟨d_0,d_1⟩:=D.box2;have hsD:=bLt d_0;obtain⟨e_0,e_1,e_2,e_3,e_4,e_5⟩:=E.box6;have hsE:=bLt e_0;have g_0:=G.box1;have hsG:=bLt g_0
     cases pq
     ·have hr:=hbadp.out rfl
      replace hr:=kH hr
      clear hbadp hgood
      go_wp2_with (go_at_call 133;((with_reducible refine(cQ.out).mono ?_);rintro e w1 ⟨rfl,hb⟩;have hw:=hw.trans (hb.mono hw.size);have D:=D.below hb;obtain⟨d_0,d_1⟩:=D.box2;have hsD:=bLt d_0;have E:=E.below hb;obtain⟨e_0,e_1,e_2,e_3,e_4,e_5⟩:=E.box6;have hsE:=bLt e_0;have G:=G.below hb;have g_0:=G.box1;have hsG:=bLt g_0;clear hb))
      go_returns
      exact⟨by rw[hr.out];rfl,hw⟩
     ·have hF:=kH (hgood.out rfl)
      clear hbadp hgood
      go_wp2_with (go_at_call 133;((with_reducible refine(cQ.out).mono ?_);rintro e w1 ⟨rfl,hb⟩;have hw:=hw.trans (hb.mono hw.size);have D:=D.below hb;obtain⟨d_0,d_1⟩:=D.box2;have hsD:=bLt d_0;have E:=E.below hb;obtain⟨e_0,e_1,e_2,e_3,e_4,e_5⟩:=E.box6;have hsE:=bLt e_0;have G:=G.below hb;have g_0:=G.box1;have hsG:=bLt g_0;clear hb))
      go_roundw
      case rel=>exact⟨k+1,by omega,by go_num,hF,hw,D,E⟩
      case measure=>simp[intOf];omega
    ·obtain rfl:k=pm:=by omega
     have hpo:patsOk ps=true:=all_full (f:=fun q=>patOk (patD q)) hF.out hpm.out
     have hB:=hBody.out
     rw[hpo,Bool.true_and]at hB
     clear hF hpo hBody
     have hww:IntKind.i64.wrap ((j:Int)-1)=(j:Int)-1:=IntWalk.i64_in _ (by omega)
     have e2' : decide (2<=j)=decide (2<=(j:Int)):=by rw[decide_eq_decide];omega
     generalize hk2:((k:Int) == (j:Int)-1)=k2 at *
     generalize hj2:decide (2<=(j:Int))=j2 at *
     subst hB
     cases j2
     all_goals go_wp2_with fail
     all_goals go_returns
     all_goals exact⟨by rw[hrb.out];rfl,hw⟩
theorem l04Node_c (x:GNode) (hx:x.wf) (N:List GNode) (hN:N.length<=1152921504606846976) (tv:Value) (na:Option Addr) (nc:Nat) (u0 u1:Value) (lo1 lo2:Nat) (w:World)
  (h0:Sl GNode.R 6 lo1 w (.slice na N.length nc) N) (hk:Sl IntR 1 lo2 w u0 x.kids) (hp:Sl GPat.R 1 lo2 w u1 x.pats) (hps:∀q∈x.pats,q.nodes.length<=1152921504606846976) :
  Calls Tryz.prog 91 #[.agg #[tv,.slice na N.length nc],.agg #[.int .i64 x.kind,.int .i64 x.at_,.int .i64 x.n,.string x.s,u0,u1]] w fun e w'=>e=.returned (.bool (nodSpec N x))/\Below w.heap.size w w':=by
 by_cases h1:x.kind=3\/x.kind=5\/x.kind=7\/x.kind=15
 ·exact l04Node_named x hx N hN tv na nc u0 u1 lo1 lo2 w h0 hk hp hps h1
 by_cases h2:x.kind=8
 ·exact l04Node_8 x hx N hN tv na nc u0 u1 lo1 lo2 w h0 hk hp hps h2
 by_cases h3:x.kind=10
 ·exact l04Node_10 x hx N hN tv na nc u0 u1 lo1 lo2 w h0 hk hp hps h3
 by_cases h4:x.kind=2
 ·exact l04Node_2 x hx N hN tv na nc u0 u1 lo1 lo2 w h0 hk hp hps h4
 by_cases h5:x.kind=4
 ·exact l04Node_4 x hx N hN tv na nc u0 u1 lo1 lo2 w h0 hk hp hps h5
 by_cases h6:x.kind=13
 ·exact l04Node_13 x hx N hN tv na nc u0 u1 lo1 lo2 w h0 hk hp hps h6
 ·exact l04Node_plain x hx N hN tv na nc u0 u1 lo1 lo2 w h0 hk hp hps ⟨h1,h2,h3,h4,h5,h6⟩
theorem progOk_spec (p:GProgram):progOk p=((decide (1<=(p.nodes.length:Int)/\(p.nodes.length:Int)<=600)&&decide ((p.types.length:Int)<=8))&&(p.types.all typeOk&&(p.nodes.all (nodSpec p.nodes)&&decide (endsK p.nodes.length (kidsAtN p.nodes) (p.nodes.length+1) 0=p.nodes.length)))):=by
 unfold progOk shapeP
 have hi:inOrd p.nodes=decide (endsK p.nodes.length (kidsAtN p.nodes) (p.nodes.length+1) 0=p.nodes.length):=rfl
 rw[<- hi]
 cases h:inOrd p.nodes
 ·simp
 ·have hk:p.nodes.all (nodSpec p.nodes)=(p.nodes.all (nodOk p.nodes)&&p.nodes.all fun x=>patsOk x.pats):=by
   rw[Bool.eq_iff_iff,Bool.and_eq_true,List.all_eq_true,List.all_eq_true,List.all_eq_true]
   constructor
   ·intro h1
    refine⟨fun x hx=>?_,fun x hx=>?_⟩
    ·have:=h1 x hx
     unfold nodSpec at this
     simp at this
     exact this.2.1
    ·have:=h1 x hx
     unfold nodSpec at this
     simp at this
     exact this.2.2
   ·rintro ⟨h1,h2⟩ x hx
    unfold nodSpec
    have h3:kidsIn p.nodes.length x.kids=true:=by
     obtain⟨i,hi,rfl⟩:=List.getElem_of_mem hx
     have:=inOrd_kids h (List.getElem?_eq_getElem hi)
     refine List.all_eq_true.2 fun k hk=>?_
     have:=this k hk
     simp;omega
    rw[h3,h1 x hx,h2 x hx];rfl
  rw[hk]
  cases decide (1<=(p.nodes.length:Int)/\(p.nodes.length:Int)<=600)<;>cases decide ((p.types.length:Int)<=8)<;>cases p.types.all typeOk<;>cases p.nodes.all (nodOk p.nodes)<;>cases (p.nodes.all fun x=>patsOk x.pats)<;>rfl
theorem specProgramOk_c (p:GProgram) (hs:ProgSm p) (r:List Value) (lo:Nat) (w:World) (hr:GProgram.R lo w r p) :
  Calls Tryz.prog 45 #[.agg r.toArray] w fun e w'=>e=.returned (.bool (progOk p))/\Below w.heap.size w w':=by
 have CE:=fun W (hW:Below w.heap.size w W)=>l04NEnd_c p hs.n (p.nodes.length+1) 0 r lo W (GProgram.good.below hr hW) (by omega)
 have hS:=progOk_spec p
 obtain⟨Ts,N⟩:=p
 obtain⟨tv,nv,rfl,-,hT,hN⟩:=hr
 obtain⟨s1,s2,s3,s4⟩:=hs
 dsimp only at *
 generalize progOk ⟨Ts,N⟩=res at *
 obtain⟨na,nc,rfl,ul,um,h0⟩:=hN
 obtain⟨ta,tc,rfl,tl,tm,t0⟩:=hT
 have hsl:∀W,Below w.heap.size w W->Sl GNode.R 6 lo W (.slice na N.length nc) N:=fun W hW=>⟨na,nc,rfl,ul,um,h0.below GNode.good hW⟩
 have hkk:∀W,Below w.heap.size w W->SlAt GNode.R 6 lo W na N:=fun W hW=>h0.below GNode.good hW
 have htk:∀W,Below w.heap.size w W->SlAt GType.R 3 lo W ta Ts:=fun W hW=>t0.below GType.good hW
 have hNN:=s1
 obtain⟨n,hn⟩ : ∃n,n=N.length:=⟨_,rfl⟩
 obtain⟨tn,htn⟩ : ∃tn,tn=Ts.length:=⟨_,rfl⟩
 rw[<- hn]at ul s1 hS CE hsl
 rw[<- htn]at hS s2 CE tl
 rw[<- hn,<- htn]
 clear h0 t0
 generalize endsK n (kidsAtN N) (n+1) 0=E at *
 have hE:decide (E=(n:Int))=(E == (n:Int)):=by cases h:(E == (n:Int))<;>simp_all
 rw[hE]at hS
 clear hE
 replace hn:=kH hn;replace htn:=kH htn;replace s3:=kH s3;replace s4:=kH s4;replace hsl:=kH hsl;replace hkk:=kH hkk;replace htk:=kH htk;replace hNN:=kH hNN;replace CE:=kH CE;replace hS:=kH hS
 show Calls Tryz.prog 45 #[.agg #[.slice ta tn tc,.slice na n nc]] w _
 by_cases hb1:n<1
 ·have hr:res=false:=by rw[hS.out,decide_eq_false (by omega)];rfl
  have d1:decide ((n:Int)<1)=true:=decide_eq_true (by omega)
  subst hr
  clear hS
  go_enter Tryz.func45,Tryz.ntmps45
  go_upto_region 1 with fail
  have D:RowAt (w.alloc (.cells #[.slice ta tn tc,.slice na n nc] 39)) (w.heap.size) 0 [.slice ta tn tc,.slice na n nc]:=RowAt.box w #[.slice ta tn tc,.slice na n nc] 39
  have hw:Below w.heap.size w (w.alloc (.cells #[.slice ta tn tc,.slice na n nc] 39)):=by go_grown
  generalize (w.alloc (.cells #[.slice ta tn tc,.slice na n nc] 39))=w0 at *
  obtain⟨d_0,d_1⟩:=D.box2;have hsD:=bLt d_0
  go_wp2_with fail
  go_returns
  exact⟨rfl,hw⟩
 have d1:decide ((n:Int)<1)=false:=decide_eq_false (by omega)
 by_cases hb2:600<n
 ·have hr:res=false:=by rw[hS.out,decide_eq_false (by omega)];rfl
  have d2:decide (600<(n:Int))=true:=decide_eq_true (by omega)
  have d2' : decide (600<n)=true:=decide_eq_true (by omega)
  subst hr
  clear hS
  go_enter Tryz.func45,Tryz.ntmps45
  go_upto_region 1 with fail
  have D:RowAt (w.alloc (.cells #[.slice ta tn tc,.slice na n nc] 39)) (w.heap.size) 0 [.slice ta tn tc,.slice na n nc]:=RowAt.box w #[.slice ta tn tc,.slice na n nc] 39
  have hw:Below w.heap.size w (w.alloc (.cells #[.slice ta tn tc,.slice na n nc] 39)):=by go_grown
  generalize (w.alloc (.cells #[.slice ta tn tc,.slice na n nc] 39))=w0 at *
  obtain⟨d_0,d_1⟩:=D.box2;have hsD:=bLt d_0
  go_wp2_with fail
  go_returns
  exact⟨rfl,hw⟩
 have d2:decide (600<(n:Int))=false:=decide_eq_false (by omega)
 have d2' : decide (600<n)=false:=decide_eq_false (by omega)
 by_cases hb3:8<tn
 ·have hr:res=false:=by rw[hS.out,decide_eq_false (by omega : ¬ (tn:Int)<=8),Bool.and_false];rfl
  have d3:decide (8<(tn:Int))=true:=decide_eq_true (by omega)
  have d3' : decide (8<tn)=true:=decide_eq_true (by omega)
  subst hr
  clear hS
  go_enter Tryz.func45,Tryz.ntmps45
  go_upto_region 1 with fail
  have D:RowAt (w.alloc (.cells #[.slice ta tn tc,.slice na n nc] 39)) (w.heap.size) 0 [.slice ta tn tc,.slice na n nc]:=RowAt.box w #[.slice ta tn tc,.slice na n nc] 39
  have hw:Below w.heap.size w (w.alloc (.cells #[.slice ta tn tc,.slice na n nc] 39)):=by go_grown
  generalize (w.alloc (.cells #[.slice ta tn tc,.slice na n nc] 39))=w0 at *
  obtain⟨d_0,d_1⟩:=D.box2;have hsD:=bLt d_0
  go_wp2_with fail
  go_returns
  exact⟨rfl,hw⟩
 have d3:decide (8<(tn:Int))=false:=decide_eq_false (by omega)
 have d3' : decide (8<tn)=false:=decide_eq_false (by omega)
 replace hS:Hid (res=(Ts.all typeOk&&(N.all (nodSpec N)&&(E == (n:Int))))):=by
  show _=_
  rw[hS.out,decide_eq_true (by omega),decide_eq_true (by omega:(tn:Int)<=8)];rfl
 go_enter Tryz.func45,Tryz.ntmps45
 go_upto_region 1 with fail
 have D:RowAt (w.alloc (.cells #[.slice ta tn tc,.slice na n nc] 39)) (w.heap.size) 0 [.slice ta tn tc,.slice na n nc]:=RowAt.box w #[.slice ta tn tc,.slice na n nc] 39
 have hw:Below w.heap.size w (w.alloc (.cells #[.slice ta tn tc,.slice na n nc] 39)):=by go_grown
 generalize (w.alloc (.cells #[.slice ta tn tc,.slice na n nc] 39))=w0 at *
 obtain⟨d_0,d_1⟩:=D.box2;have hsD:=bLt d_0
 go_wp2_with fail
 clear d1 d2 d2' d3 d3'
 go_loopw [28] (fun ii wr=>∃k:Nat,k<=tn/\ii=.int .i64 k/\Hid (∀y∈Ts.take k,typeOk y=true)/\Below w.heap.size w wr/\RowAt wr w.heap.size 0 [.slice ta tn tc,.slice na n nc]) (fun ii _=>tn-(intOf ii).toNat)
 case atStart=>exact⟨0,by omega,rfl,fun y hy=>by simp at hy,hw,D⟩
 case round=>
  clear hw D d_0 d_1 hsD
  obtain⟨k,hk,rfl,hF,hw,D⟩:=hrel
  have hsz:=hw.size
  obtain⟨d_0,d_1⟩:=D.box2;have hsD:=bLt d_0
  by_cases hlt:k<tn
  ·obtain⟨b1,o1,x,r,_,rfl,P1,hx,r1⟩:=(htk.out _ hw).get htn.out hlt
   have P1':=P1.out
   have hxs:=s3.out x (List.mem_of_getElem? P1')
   have hgood:=fun h=>all_stepL (f:=typeOk) hF.out P1' h
   have hbadp:typeOk x=false->res=false:=fun h=>by rw[hS.out,all_bad P1' h];rfl
   obtain⟨nm,pp,cs⟩:=x
   obtain⟨v0,rfl,hwf,hc0⟩:=hx
   obtain⟨hl1,hl2⟩:=hxs
   dsimp only at *
   have cN:=fun W=>spec_NameOk_c nm hwf.1 W
   have hty:typeOk ⟨nm,pp,cs⟩=(nameOk nm&&(decide (0<=pp/\pp<=2)&&(decide (1<=(cs.length:Int)/\(cs.length:Int)<=8)&&cs.all (conDecl pp)))):=rfl
   generalize typeOk ⟨nm,pp,cs⟩=q at *
   obtain⟨ca,cc,rfl,cl,cmx,c0⟩:=hc0
   have hck:∀W,Below wr.heap.size wr W->SlAt GCon.R 3 lo W ca cs:=fun W hW=>c0.below GCon.good hW
   obtain⟨cn,hcn⟩ : ∃cn,cn=cs.length:=⟨_,rfl⟩
   rw[<- hcn]at cl hty r1 hl1
   obtain⟨e_0,e_1,e_2⟩:=r1.cells3
   have hbb1:=World.block_lt_of_cell? _ _ e_0;dsimp only at hbb1
   clear c0 hwf r1 P1 P1' hF
   replace hgood:=kH hgood;replace hbadp:=kH hbadp;replace hck:=kH hck;replace hcn:=kH hcn;replace hl2:=kH hl2;replace hty:=kH hty
   go_upto_region 6 with fail
   have hb1:Below wr.heap.size wr (wr.alloc (.cells #[.string nm,.int .i64 pp,.slice ca cn cc] 101)):=by go_grown
   have E1:RowAt (wr.alloc (.cells #[.string nm,.int .i64 pp,.slice ca cn cc] 101)) wr.heap.size 0 [.string nm,.int .i64 pp,.slice ca cn cc]:=RowAt.box _ _ _
   have hw':=hw.trans (hb1.mono hsz)
   have D':=D.below hb1
   have hck' : ∀W,Below (wr.alloc (.cells #[.string nm,.int .i64 pp,.slice ca cn cc] 101)).heap.size (wr.alloc (.cells #[.string nm,.int .i64 pp,.slice ca cn cc] 101)) W->SlAt GCon.R 3 lo W ca cs:=fun W hW=>hck.out W (hb1.trans (hW.mono hb1.size))
   replace hck':=kH hck'
   generalize hbE:wr.heap.size=bE at *
   generalize wr.alloc (.cells #[.string nm,.int .i64 pp,.slice ca cn cc] 101)=w2 at *
   clear hw D d_0 d_1 hsD e_0 e_1 e_2 hb1 hck hbE
   have hw:=hw';have D:=D'
   clear hw' D'
   obtain⟨d_0,d_1⟩:=D.box2;have hsD:=bLt d_0;obtain⟨e1_0,e1_1,e1_2⟩:=E1.box3;have hsE1:=bLt e1_0
   generalize hno:nameOk nm=no at *
   clear hno
   cases no
   ·have hq:q=false:=hty.out
    have hr:=hbadp.out hq
    subst hr
    clear hbadp hgood hS hty
    go_wp2_with (go_at_call 89;((with_reducible refine(cN _).mono ?_);rintro e w1 ⟨rfl,hb⟩;have hw:=hw.trans (hb.mono hw.size);have D:=D.below hb;obtain⟨d_0,d_1⟩:=D.box2;have hsD:=bLt d_0;have E1:=E1.below hb;obtain⟨e1_0,e1_1,e1_2⟩:=E1.box3;have hsE1:=bLt e1_0;clear hb))
    go_returns
    exact⟨rfl,hw⟩
   by_cases g1:pp<0
   ·have hq:q=false:=by rw[hty.out,decide_eq_false (by omega)];rfl
    have hr:=hbadp.out hq
    have x1:decide (pp<0)=true:=decide_eq_true g1
    subst hr
    clear hbadp hgood hS hty
    go_wp2_with (go_at_call 89;((with_reducible refine(cN _).mono ?_);rintro e w1 ⟨rfl,hb⟩;have hw:=hw.trans (hb.mono hw.size);have D:=D.below hb;obtain⟨d_0,d_1⟩:=D.box2;have hsD:=bLt d_0;have E1:=E1.below hb;obtain⟨e1_0,e1_1,e1_2⟩:=E1.box3;have hsE1:=bLt e1_0;clear hb))
    go_returns
    exact⟨rfl,hw⟩
   have x1:decide (pp<0)=false:=decide_eq_false g1
   by_cases g2:2<pp
   ·have hq:q=false:=by rw[hty.out,decide_eq_false (by omega)];rfl
    have hr:=hbadp.out hq
    have x2:decide (2<pp)=true:=decide_eq_true g2
    subst hr
    clear hbadp hgood hS hty
    go_wp2_with (go_at_call 89;((with_reducible refine(cN _).mono ?_);rintro e w1 ⟨rfl,hb⟩;have hw:=hw.trans (hb.mono hw.size);have D:=D.below hb;obtain⟨d_0,d_1⟩:=D.box2;have hsD:=bLt d_0;have E1:=E1.below hb;obtain⟨e1_0,e1_1,e1_2⟩:=E1.box3;have hsE1:=bLt e1_0;clear hb))
    go_returns
    exact⟨rfl,hw⟩
   have x2:decide (2<pp)=false:=decide_eq_false g2
   by_cases g3:cn<1
   ·have hq:q=false:=by rw[hty.out,decide_eq_true (by omega),decide_eq_false (by omega)];rfl
    have hr:=hbadp.out hq
    have x3:decide ((cn:Int)<1)=true:=decide_eq_true (by omega)
    subst hr
    clear hbadp hgood hS hty
    go_wp2_with (go_at_call 89;((with_reducible refine(cN _).mono ?_);rintro e w1 ⟨rfl,hb⟩;have hw:=hw.trans (hb.mono hw.size);have D:=D.below hb;obtain⟨d_0,d_1⟩:=D.box2;have hsD:=bLt d_0;have E1:=E1.below hb;obtain⟨e1_0,e1_1,e1_2⟩:=E1.box3;have hsE1:=bLt e1_0;clear hb))
    go_returns
    exact⟨rfl,hw⟩
   have x3:decide ((cn:Int)<1)=false:=decide_eq_false (by omega)
   by_cases g4:8<cn
   ·have hq:q=false:=by rw[hty.out,decide_eq_true (by omega),decide_eq_false (by omega)];rfl
    have hr:=hbadp.out hq
    have x4:decide (8<(cn:Int))=true:=decide_eq_true (by omega)
    have x4' : decide (8<cn)=true:=decide_eq_true (by omega)
    subst hr
    clear hbadp hgood hS hty
    go_wp2_with (go_at_call 89;((with_reducible refine(cN _).mono ?_);rintro e w1 ⟨rfl,hb⟩;have hw:=hw.trans (hb.mono hw.size);have D:=D.below hb;obtain⟨d_0,d_1⟩:=D.box2;have hsD:=bLt d_0;have E1:=E1.below hb;obtain⟨e1_0,e1_1,e1_2⟩:=E1.box3;have hsE1:=bLt e1_0;clear hb))
    go_returns
    exact⟨rfl,hw⟩
   have x4:decide (8<(cn:Int))=false:=decide_eq_false (by omega)
   have x4' : decide (8<cn)=false:=decide_eq_false (by omega)
   have hq:q=cs.all (conDecl pp):=by rw[hty.out,decide_eq_true (by omega),decide_eq_true (by omega)];rfl
   clear hty
   replace hq:=kH hq
   have hw00:=Below.refl w2.heap.size w2
   go_wp2_with (go_at_call 89;(with_reducible refine(cN _).mono ?_);rintro e w1 ⟨rfl,hb⟩;have hw00:=hw00.trans (hb.mono hw00.size);have hw:=hw.trans (hb.mono hw.size);have D:=D.below hb;obtain⟨d_0,d_1⟩:=D.box2;have hsD:=bLt d_0;have E1:=E1.below hb;obtain⟨e1_0,e1_1,e1_2⟩:=E1.box3;have hsE1:=bLt e1_0;clear hb)
   clear x1 x2 x3 x4 x4'
   go_loopw [61] (fun ii wr=>∃j:Nat,j<=cn/\ii=.int .i64 j/\Hid (∀y∈cs.take j,conDecl pp y=true)/\Below w.heap.size w wr/\Below w2.heap.size w2 wr/\RowAt wr w.heap.size 0 [.slice (some ⟨b1,o1,none⟩) tn tc,.slice na n nc]/\RowAt wr bE 0 [.string nm,.int .i64 pp,.slice ca cn cc]) (fun ii _=>cn-(intOf ii).toNat)
   case atStart=>exact⟨0,by omega,rfl,fun y hy=>by simp at hy,hw,hw00,D,E1⟩
   case round=>
    clear hw D d_0 d_1 hsD hw00 E1 e1_0 e1_1 e1_2 hsE1
    obtain⟨j,hj,rfl,hF,hw,hw00,D,E1⟩:=hrel
    have hsz:=hw.size
    have hsz0:=hw00.size
    obtain⟨d_0,d_1⟩:=D.box2;have hsD:=bLt d_0;obtain⟨e1_0,e1_1,e1_2⟩:=E1.box3;have hsE1:=bLt e1_0
    by_cases hjm:j<cn
    ·obtain⟨b2,o2,y,r,_,rfl,P2,hy,r2⟩:=(hck'.out _ hw00).get hcn.out hjm
     have P2':=P2.out
     have hys:=hl2.out y (List.mem_of_getElem? P2')
     have hgoodc:=fun h=>all_stepL (f:=conDecl pp) hF.out P2' h
     have hbadc:conDecl pp y=false->res=false:=fun h=>hbadp.out (by rw[hq.out];exact all_bad P2' h)
     have cC:=fun W (hW:Below wr.heap.size wr W)=>l04Con_c y hys pp r lo W (GCon.good.below hy hW)
     obtain⟨kn,kh,⟨its⟩⟩:=y
     obtain⟨v0,rfl,hwfy,i0⟩:=hy
     obtain⟨ia,ic,rfl⟩:=i0.form
     dsimp only at *
     generalize conDecl pp ⟨kn,kh,⟨its⟩⟩=q2 at *
     generalize its.length=im at *
     obtain⟨f_0,f_1,f_2⟩:=r2.cells3
     have hbb2:=World.block_lt_of_cell? _ _ f_0;dsimp only at hbb2
     clear i0 hwfy r2 P2 P2' hF
     replace hgoodc:=kH hgoodc;replace hbadc:=kH hbadc;replace cC:=kH cC
     go_upto_region 11 with fail
     have hb1:Below wr.heap.size wr (wr.alloc (.cells #[.string kn,.bool kh,.slice ia im ic] 105)):=by go_grown
     have G:RowAt (wr.alloc (.cells #[.string kn,.bool kh,.slice ia im ic] 105)) wr.heap.size 0 [.string kn,.bool kh,.slice ia im ic]:=RowAt.box _ _ _
     have hw':=hw.trans (hb1.mono hsz)
     have hw0':=hw00.trans (hb1.mono hsz0)
     have D':=D.below hb1
     have E':=E1.below hb1
     have cC':=cC.out _ hb1
     generalize wr.alloc (.cells #[.string kn,.bool kh,.slice ia im ic] 105)=w3 at *
     clear hw D d_0 d_1 hsD e1_0 e1_1 e1_2 hsE1 f_0 f_1 f_2 hb1 cC hw00 E1
     have hw:=hw';have D:=D';have hw00:=hw0';have E1:=E'
     clear hw' D' hw0' E'
     replace cC':=kH cC'
     obtain⟨d_0,d_1⟩:=D.box2;have hsD:=bLt d_0;obtain⟨e1_0,e1_1,e1_2⟩:=E1.box3;have hsE1:=bLt e1_0;obtain⟨g_0,g_1,g_2⟩:=G.box3;have hsG:=bLt g_0
     cases q2
     ·have hr:=hbadc.out rfl
      subst hr
      clear hbadp hgood hS hq hbadc hgoodc
      go_wp2_with (go_at_call 90;((with_reducible refine(cC'.out).mono ?_);rintro e w1 ⟨rfl,hb⟩;have hw:=hw.trans (hb.mono hw.size);have D:=D.below hb;obtain⟨d_0,d_1⟩:=D.box2;have hsD:=bLt d_0;have E1:=E1.below hb;obtain⟨e1_0,e1_1,e1_2⟩:=E1.box3;have hsE1:=bLt e1_0;have G:=G.below hb;obtain⟨g_0,g_1,g_2⟩:=G.box3;have hsG:=bLt g_0;clear hb))
      go_returns
      exact⟨rfl,hw⟩
     ·have hF:=kH (hgoodc.out rfl)
      clear hgoodc hbadc
      go_wp2_with (go_at_call 90;(with_reducible refine(cC'.out).mono ?_);rintro e w1 ⟨rfl,hb⟩;have hw00:=hw00.trans (hb.mono hw00.size);have hw:=hw.trans (hb.mono hw.size);have D:=D.below hb;obtain⟨d_0,d_1⟩:=D.box2;have hsD:=bLt d_0;have E1:=E1.below hb;obtain⟨e1_0,e1_1,e1_2⟩:=E1.box3;have hsE1:=bLt e1_0;have G:=G.below hb;obtain⟨g_0,g_1,g_2⟩:=G.box3;have hsG:=bLt g_0;clear hb)
      go_roundw
      case rel=>exact⟨j+1,by omega,by go_num,hF,hw,hw00,D,E1⟩
      case measure=>simp[intOf];omega
    ·obtain rfl:j=cn:=by omega
     have hq1:q=true:=by rw[hq.out];exact all_full hF.out hcn.out
     have hF:=kH (hgood.out hq1)
     clear hq hq1 hgood hbadp
     go_wp2_with fail
     go_roundw
     case rel=>exact⟨k+1,by omega,by go_num,hF,hw,D⟩
     case measure=>simp[intOf];omega
  ·obtain rfl:k=tn:=by omega
   have hS2:res=(N.all (nodSpec N)&&(E == (n:Int))):=by rw[hS.out,all_full hF.out htn.out];rfl
   clear hF hS
   replace hS:=kH hS2
   clear hS2
   go_wp2_with fail
   go_loopw [75] (fun ii wr=>∃k2:Nat,k2<=n/\ii=.int .i64 k2/\Hid (∀y∈N.take k2,nodSpec N y=true)/\Below w.heap.size w wr/\RowAt wr w.heap.size 0 [.slice ta k tc,.slice na n nc]) (fun ii _=>n-(intOf ii).toNat)
   case atStart=>exact⟨0,by omega,rfl,fun y hy=>by simp at hy,hw,D⟩
   case round=>
    clear hw D d_0 d_1 hsD hsz
    obtain⟨k2,hk2,rfl,hF,hw,D⟩:=hrel
    have hsz:=hw.size
    obtain⟨d_0,d_1⟩:=D.box2;have hsD:=bLt d_0
    by_cases hlt2:k2<n
    ·obtain⟨b1,o1,x,r,_,rfl,P1,hx,r1⟩:=(hkk.out _ hw).get hn.out hlt2
     have P1':=P1.out
     have hxs:=s4.out x (List.mem_of_getElem? P1')
     have hgood:=fun h=>all_stepL (f:=nodSpec N) hF.out P1' h
     have hbadp:nodSpec N x=false->res=false:=fun h=>by rw[hS.out,all_bad P1' h];rfl
     obtain⟨v0,v1,rfl,hwf,hk0,hp0⟩:=hx
     have cN:=fun W (hW:Below wr.heap.size wr W) (hW2:Below w.heap.size w W)=>l04Node_c x hwf N hNN.out (.slice ta k tc) (some ⟨b1,o1,none⟩) nc v0 v1 lo lo W (hn.out ▸ hsl.out W hW2) (hk0.below IntR.good hW) (hp0.below GPat.good hW) hxs.2
     rw[<- hn.out]at cN
     generalize nodSpec N x=q at *
     obtain⟨kd,at_,nn,s,ks,ps⟩:=x
     obtain⟨ka,kc,rfl⟩:=hk0.form
     obtain⟨pa,pc,rfl⟩:=hp0.form
     dsimp only at *
     obtain⟨e_0,e_1,e_2,e_3,e_4,e_5⟩:=r1.cells6
     have hbb1:=World.block_lt_of_cell? _ _ e_0;dsimp only at hbb1
     clear hk0 hp0 hwf r1 P1 P1' hxs hF
     generalize ks.length=m at *
     generalize ps.length=pm at *
     replace hgood:=kH hgood;replace hbadp:=kH hbadp;replace cN:=kH cN
     go_upto_region 18 with fail
     have hb1:Below wr.heap.size wr (wr.alloc (.cells #[.int .i64 kd,.int .i64 at_,.int .i64 nn,.string s,.slice ka m kc,.slice pa pm pc] 123)):=by go_grown
     have G:RowAt (wr.alloc (.cells #[.int .i64 kd,.int .i64 at_,.int .i64 nn,.string s,.slice ka m kc,.slice pa pm pc] 123)) wr.heap.size 0 [.int .i64 kd,.int .i64 at_,.int .i64 nn,.string s,.slice ka m kc,.slice pa pm pc]:=RowAt.box _ _ _
     have hw':=hw.trans (hb1.mono hsz)
     have D':=D.below hb1
     have cN':=cN.out _ hb1 hw'
     generalize wr.alloc (.cells #[.int .i64 kd,.int .i64 at_,.int .i64 nn,.string s,.slice ka m kc,.slice pa pm pc] 123)=w2 at *
     clear hw D d_0 d_1 hsD e_0 e_1 e_2 e_3 e_4 e_5 hb1 cN
     have hw:=hw';have D:=D'
     clear hw' D'
     replace cN':=kH cN'
     obtain⟨d_0,d_1⟩:=D.box2;have hsD:=bLt d_0;obtain⟨g_0,g_1,g_2,g_3,g_4,g_5⟩:=G.box6;have hsG:=bLt g_0
     cases q
     ·have hr:=hbadp.out rfl
      subst hr
      clear hbadp hgood hS
      go_wp2_with (go_at_call 91;((with_reducible refine(cN'.out).mono ?_);rintro e w1 ⟨rfl,hb⟩;have hw:=hw.trans (hb.mono hw.size);have D:=D.below hb;obtain⟨d_0,d_1⟩:=D.box2;have hsD:=bLt d_0;have G:=G.below hb;obtain⟨g_0,g_1,g_2,g_3,g_4,g_5⟩:=G.box6;have hsG:=bLt g_0;clear hb))
      go_returns
      exact⟨rfl,hw⟩
     ·have hF:=kH (hgood.out rfl)
      clear hbadp hgood
      go_wp2_with (go_at_call 91;((with_reducible refine(cN'.out).mono ?_);rintro e w1 ⟨rfl,hb⟩;have hw:=hw.trans (hb.mono hw.size);have D:=D.below hb;obtain⟨d_0,d_1⟩:=D.box2;have hsD:=bLt d_0;have G:=G.below hb;obtain⟨g_0,g_1,g_2,g_3,g_4,g_5⟩:=G.box6;have hsG:=bLt g_0;clear hb))
      go_roundw
      case rel=>exact⟨k2+1,by omega,by go_num,hF,hw,D⟩
      case measure=>simp[intOf];omega
    ·obtain rfl:k2=n:=by omega
     have hr:res=(E == (k2:Int)):=by rw[hS.out,all_full hF.out hn.out];rfl
     have CE':=fun W (hW:Below wr.heap.size wr W)=>CE.out W (hw.trans (hW.mono hsz))
     generalize hq:(E == (k2:Int))=q at *
     subst hr
     clear hF hS
     replace CE':=kH CE'
     go_upto_region 21 with fail
     (refine wp_region_ext_lit (by kernel_rfl) (by kernel_rfl) ?_;(repeat (any_goals (first|go_big_quiet_step ((first|(go_at_call 92;exact Calls.ext (CE'.out _ (Subtype.property _)))))|quiet_step ((first|(go_at_call 92;exact Calls.ext (CE'.out _ (Subtype.property _)))))|(refine wpQuiet_step (fun K hK=>?_);go_simp;split<;>(refine hK _ ?_;clear hK K)))));all_goals (refine wpQuiet_nil ?_;rintro w1 ⟨⟨w2,hb⟩,rfl⟩;have hw:=hw.trans (hb.mono hw.size);have D:=D.below hb;obtain⟨d_0,d_1⟩:=D.box2;have hsD:=bLt d_0;clear hb))
     all_goals go_wp2_with fail
     all_goals go_returns
     all_goals exact⟨rfl,hw⟩
end Go.Proofs.YtkikkfjmggobpaaGreat
